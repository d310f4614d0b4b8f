/- Texts of one proof, put together: X1, T1, T2, T3, T7. -/
import Derived.Test.YtcdcofpcfhojiaaGreatDoorM2
import Derived.Lib.ItoaNum
import Derived.Test.YtcdcofpcfhojiaaGreatDoorProg
set_option maxRecDepth 20000
namespace Go.VL
open Go.RowKit
def layT : List (TypeId × Lay) := [
  (1, ⟨.other, 1, 8, [.nilFunc]⟩),
  (2, ⟨.int .i64, 1, 8, [.int .i64 0]⟩),
  (3, ⟨.int .i64, 1, 8, [.int .i64 0]⟩),
  (4, ⟨.bool, 1, 1, [.bool false]⟩),
  (5, ⟨.int .u8, 1, 1, [.int .u8 0]⟩),
  (6, ⟨.int .u8, 1, 1, [.int .u8 0]⟩),
  (7, ⟨.struct [(2, 0), (3, 1), (4, 2), (6, 3)], 4, 24, [.int .i64 0, .int .i64 0, .bool false, .int .u8 0]⟩),
  (8, ⟨.struct [(2, 0), (3, 1), (4, 2), (6, 3)], 4, 24, [.int .i64 0, .int .i64 0, .bool false, .int .u8 0]⟩),
  (9, ⟨.string, 1, 16, [.string ⟨#[]⟩]⟩),
  (10, ⟨.string, 1, 16, [.string ⟨#[]⟩]⟩),
  (11, ⟨.string, 1, 16, [.string ⟨#[]⟩]⟩),
  (12, ⟨.int .u64, 1, 8, [.int .u64 0]⟩),
  (13, ⟨.struct [(9, 0), (12, 1)], 2, 24, [.string ⟨#[]⟩, .int .u64 0]⟩),
  (14, ⟨.struct [(9, 0), (12, 1)], 2, 24, [.string ⟨#[]⟩, .int .u64 0]⟩),
  (15, ⟨.other, 1, 8, [.pointer none]⟩),
  (16, ⟨.other, 1, 8, [.pointer none]⟩),
  (17, ⟨.other, 1, 8, [.pointer none]⟩),
  (18, ⟨.struct [(17, 0)], 1, 8, [.pointer none]⟩),
  (19, ⟨.struct [(17, 0)], 1, 8, [.pointer none]⟩),
  (21, ⟨.int .i32, 1, 4, [.int .i32 0]⟩),
  (22, ⟨.slice 123, 1, 24, [.slice none 0 0]⟩),
  (23, ⟨.slice 26, 1, 24, [.slice none 0 0]⟩),
  (24, ⟨.slice 101, 1, 24, [.slice none 0 0]⟩),
  (25, ⟨.slice 105, 1, 24, [.slice none 0 0]⟩),
  (26, ⟨.float .f32, 1, 4, [.float .f32 0]⟩),
  (27, ⟨.struct [(22, 0), (23, 1), (24, 2), (25, 3), (2, 4), (26, 5), (26, 6)], 7, 112, [.slice none 0 0, .slice none 0 0, .slice none 0 0, .slice none 0 0, .int .i64 0, .float .f32 0, .float .f32 0]⟩),
  (28, ⟨.struct [(22, 0), (23, 1), (24, 2), (25, 3), (2, 4), (26, 5), (26, 6)], 7, 112, [.slice none 0 0, .slice none 0 0, .slice none 0 0, .slice none 0 0, .int .i64 0, .float .f32 0, .float .f32 0]⟩),
  (29, ⟨.other, 1, 8, [.nilFunc]⟩),
  (30, ⟨.other, 1, 8, [.nilFunc]⟩),
  (31, ⟨.slice 61, 1, 24, [.slice none 0 0]⟩),
  (32, ⟨.slice 75, 1, 24, [.slice none 0 0]⟩),
  (33, ⟨.slice 65, 1, 24, [.slice none 0 0]⟩),
  (34, ⟨.struct [(31, 0), (23, 1), (32, 2), (33, 3), (2, 4), (26, 5), (26, 6)], 7, 112, [.slice none 0 0, .slice none 0 0, .slice none 0 0, .slice none 0 0, .int .i64 0, .float .f32 0, .float .f32 0]⟩),
  (35, ⟨.struct [(31, 0), (23, 1), (32, 2), (33, 3), (2, 4), (26, 5), (26, 6)], 7, 112, [.slice none 0 0, .slice none 0 0, .slice none 0 0, .slice none 0 0, .int .i64 0, .float .f32 0, .float .f32 0]⟩),
  (36, ⟨.other, 1, 8, [.nilFunc]⟩),
  (37, ⟨.other, 1, 8, [.nilFunc]⟩),
  (38, ⟨.other, 1, 8, [.nilFunc]⟩),
  (40, ⟨.other, 1, 8, [.nilFunc]⟩),
  (41, ⟨.other, 1, 8, [.nilFunc]⟩),
  (42, ⟨.other, 1, 8, [.nilFunc]⟩),
  (43, ⟨.other, 1, 8, [.nilFunc]⟩),
  (44, ⟨.other, 1, 8, [.nilFunc]⟩),
  (45, ⟨.other, 1, 8, [.nilFunc]⟩),
  (46, ⟨.other, 1, 8, [.nilFunc]⟩),
  (47, ⟨.other, 1, 8, [.nilFunc]⟩),
  (48, ⟨.other, 1, 8, [.pointer none]⟩),
  (49, ⟨.other, 1, 8, [.nilFunc]⟩),
  (50, ⟨.other, 1, 8, [.nilFunc]⟩),
  (51, ⟨.other, 1, 8, [.nilFunc]⟩),
  (52, ⟨.other, 1, 8, [.nilFunc]⟩),
  (53, ⟨.other, 1, 8, [.nilFunc]⟩),
  (54, ⟨.other, 1, 8, [.nilFunc]⟩),
  (55, ⟨.other, 1, 8, [.nilFunc]⟩),
  (56, ⟨.other, 1, 8, [.nilFunc]⟩),
  (57, ⟨.slice 9, 1, 24, [.slice none 0 0]⟩),
  (58, ⟨.array 16 26, 16, 64, [.float .f32 0, .float .f32 0, .float .f32 0, .float .f32 0, .float .f32 0, .float .f32 0, .float .f32 0, .float .f32 0, .float .f32 0, .float .f32 0, .float .f32 0, .float .f32 0, .float .f32 0, .float .f32 0, .float .f32 0, .float .f32 0]⟩),
  (59, ⟨.array 16 26, 16, 64, [.float .f32 0, .float .f32 0, .float .f32 0, .float .f32 0, .float .f32 0, .float .f32 0, .float .f32 0, .float .f32 0, .float .f32 0, .float .f32 0, .float .f32 0, .float .f32 0, .float .f32 0, .float .f32 0, .float .f32 0, .float .f32 0]⟩),
  (60, ⟨.struct [(59, 0), (26, 16), (26, 17), (26, 18)], 19, 76, [.float .f32 0, .float .f32 0, .float .f32 0, .float .f32 0, .float .f32 0, .float .f32 0, .float .f32 0, .float .f32 0, .float .f32 0, .float .f32 0, .float .f32 0, .float .f32 0, .float .f32 0, .float .f32 0, .float .f32 0, .float .f32 0, .float .f32 0, .float .f32 0, .float .f32 0]⟩),
  (61, ⟨.struct [(59, 0), (26, 16), (26, 17), (26, 18)], 19, 76, [.float .f32 0, .float .f32 0, .float .f32 0, .float .f32 0, .float .f32 0, .float .f32 0, .float .f32 0, .float .f32 0, .float .f32 0, .float .f32 0, .float .f32 0, .float .f32 0, .float .f32 0, .float .f32 0, .float .f32 0, .float .f32 0, .float .f32 0, .float .f32 0, .float .f32 0]⟩),
  (62, ⟨.other, 1, 8, [.nilFunc]⟩),
  (63, ⟨.slice 142, 1, 24, [.slice none 0 0]⟩),
  (64, ⟨.struct [(63, 0), (2, 1), (2, 2)], 3, 40, [.slice none 0 0, .int .i64 0, .int .i64 0]⟩),
  (65, ⟨.struct [(63, 0), (2, 1), (2, 2)], 3, 40, [.slice none 0 0, .int .i64 0, .int .i64 0]⟩),
  (66, ⟨.other, 1, 8, [.nilFunc]⟩),
  (67, ⟨.array 4 26, 4, 16, [.float .f32 0, .float .f32 0, .float .f32 0, .float .f32 0]⟩),
  (68, ⟨.array 4 67, 16, 64, [.float .f32 0, .float .f32 0, .float .f32 0, .float .f32 0, .float .f32 0, .float .f32 0, .float .f32 0, .float .f32 0, .float .f32 0, .float .f32 0, .float .f32 0, .float .f32 0, .float .f32 0, .float .f32 0, .float .f32 0, .float .f32 0]⟩),
  (69, ⟨.array 4 67, 16, 64, [.float .f32 0, .float .f32 0, .float .f32 0, .float .f32 0, .float .f32 0, .float .f32 0, .float .f32 0, .float .f32 0, .float .f32 0, .float .f32 0, .float .f32 0, .float .f32 0, .float .f32 0, .float .f32 0, .float .f32 0, .float .f32 0]⟩),
  (70, ⟨.array 4 26, 4, 16, [.float .f32 0, .float .f32 0, .float .f32 0, .float .f32 0]⟩),
  (71, ⟨.struct [(2, 0), (2, 1), (69, 2), (70, 18)], 22, 96, [.int .i64 0, .int .i64 0, .float .f32 0, .float .f32 0, .float .f32 0, .float .f32 0, .float .f32 0, .float .f32 0, .float .f32 0, .float .f32 0, .float .f32 0, .float .f32 0, .float .f32 0, .float .f32 0, .float .f32 0, .float .f32 0, .float .f32 0, .float .f32 0, .float .f32 0, .float .f32 0, .float .f32 0, .float .f32 0]⟩),
  (72, ⟨.struct [(2, 0), (2, 1), (69, 2), (70, 18)], 22, 96, [.int .i64 0, .int .i64 0, .float .f32 0, .float .f32 0, .float .f32 0, .float .f32 0, .float .f32 0, .float .f32 0, .float .f32 0, .float .f32 0, .float .f32 0, .float .f32 0, .float .f32 0, .float .f32 0, .float .f32 0, .float .f32 0, .float .f32 0, .float .f32 0, .float .f32 0, .float .f32 0, .float .f32 0, .float .f32 0]⟩),
  (73, ⟨.slice 2, 1, 24, [.slice none 0 0]⟩),
  (74, ⟨.struct [(72, 0), (73, 22), (73, 23), (2, 24)], 25, 152, [.int .i64 0, .int .i64 0, .float .f32 0, .float .f32 0, .float .f32 0, .float .f32 0, .float .f32 0, .float .f32 0, .float .f32 0, .float .f32 0, .float .f32 0, .float .f32 0, .float .f32 0, .float .f32 0, .float .f32 0, .float .f32 0, .float .f32 0, .float .f32 0, .float .f32 0, .float .f32 0, .float .f32 0, .float .f32 0, .slice none 0 0, .slice none 0 0, .int .i64 0]⟩),
  (75, ⟨.struct [(72, 0), (73, 22), (73, 23), (2, 24)], 25, 152, [.int .i64 0, .int .i64 0, .float .f32 0, .float .f32 0, .float .f32 0, .float .f32 0, .float .f32 0, .float .f32 0, .float .f32 0, .float .f32 0, .float .f32 0, .float .f32 0, .float .f32 0, .float .f32 0, .float .f32 0, .float .f32 0, .float .f32 0, .float .f32 0, .float .f32 0, .float .f32 0, .float .f32 0, .float .f32 0, .slice none 0 0, .slice none 0 0, .int .i64 0]⟩),
  (76, ⟨.other, 1, 8, [.nilFunc]⟩),
  (77, ⟨.other, 1, 8, [.nilFunc]⟩),
  (78, ⟨.other, 1, 8, [.nilFunc]⟩),
  (79, ⟨.other, 1, 8, [.nilFunc]⟩),
  (80, ⟨.other, 1, 8, [.nilFunc]⟩),
  (81, ⟨.other, 1, 8, [.nilFunc]⟩),
  (82, ⟨.other, 1, 8, [.nilFunc]⟩),
  (83, ⟨.float .f64, 1, 8, [.float .f64 0]⟩),
  (84, ⟨.other, 1, 8, [.nilFunc]⟩),
  (86, ⟨.other, 1, 8, [.nilFunc]⟩),
  (87, ⟨.other, 1, 8, [.nilFunc]⟩),
  (88, ⟨.other, 1, 8, [.nilFunc]⟩),
  (89, ⟨.other, 1, 8, [.nilFunc]⟩),
  (91, ⟨.other, 1, 8, [.nilFunc]⟩),
  (93, ⟨.other, 1, 8, [.nilFunc]⟩),
  (94, ⟨.other, 1, 8, [.nilFunc]⟩),
  (95, ⟨.other, 1, 8, [.nilFunc]⟩),
  (96, ⟨.other, 1, 8, [.nilFunc]⟩),
  (97, ⟨.other, 1, 8, [.nilFunc]⟩),
  (98, ⟨.struct [(2, 0), (2, 1), (68, 2), (67, 18)], 22, 96, [.int .i64 0, .int .i64 0, .float .f32 0, .float .f32 0, .float .f32 0, .float .f32 0, .float .f32 0, .float .f32 0, .float .f32 0, .float .f32 0, .float .f32 0, .float .f32 0, .float .f32 0, .float .f32 0, .float .f32 0, .float .f32 0, .float .f32 0, .float .f32 0, .float .f32 0, .float .f32 0, .float .f32 0, .float .f32 0]⟩),
  (99, ⟨.struct [(2, 0), (2, 1), (68, 2), (67, 18)], 22, 96, [.int .i64 0, .int .i64 0, .float .f32 0, .float .f32 0, .float .f32 0, .float .f32 0, .float .f32 0, .float .f32 0, .float .f32 0, .float .f32 0, .float .f32 0, .float .f32 0, .float .f32 0, .float .f32 0, .float .f32 0, .float .f32 0, .float .f32 0, .float .f32 0, .float .f32 0, .float .f32 0, .float .f32 0, .float .f32 0]⟩),
  (100, ⟨.struct [(99, 0), (73, 22), (73, 23), (2, 24)], 25, 152, [.int .i64 0, .int .i64 0, .float .f32 0, .float .f32 0, .float .f32 0, .float .f32 0, .float .f32 0, .float .f32 0, .float .f32 0, .float .f32 0, .float .f32 0, .float .f32 0, .float .f32 0, .float .f32 0, .float .f32 0, .float .f32 0, .float .f32 0, .float .f32 0, .float .f32 0, .float .f32 0, .float .f32 0, .float .f32 0, .slice none 0 0, .slice none 0 0, .int .i64 0]⟩),
  (101, ⟨.struct [(99, 0), (73, 22), (73, 23), (2, 24)], 25, 152, [.int .i64 0, .int .i64 0, .float .f32 0, .float .f32 0, .float .f32 0, .float .f32 0, .float .f32 0, .float .f32 0, .float .f32 0, .float .f32 0, .float .f32 0, .float .f32 0, .float .f32 0, .float .f32 0, .float .f32 0, .float .f32 0, .float .f32 0, .float .f32 0, .float .f32 0, .float .f32 0, .float .f32 0, .float .f32 0, .slice none 0 0, .slice none 0 0, .int .i64 0]⟩),
  (102, ⟨.other, 1, 8, [.nilFunc]⟩),
  (103, ⟨.slice 229, 1, 24, [.slice none 0 0]⟩),
  (104, ⟨.struct [(103, 0), (2, 1), (2, 2)], 3, 40, [.slice none 0 0, .int .i64 0, .int .i64 0]⟩),
  (105, ⟨.struct [(103, 0), (2, 1), (2, 2)], 3, 40, [.slice none 0 0, .int .i64 0, .int .i64 0]⟩),
  (106, ⟨.other, 1, 8, [.nilFunc]⟩),
  (107, ⟨.slice 4, 1, 24, [.slice none 0 0]⟩),
  (109, ⟨.other, 1, 8, [.nilFunc]⟩),
  (110, ⟨.other, 1, 8, [.nilFunc]⟩),
  (111, ⟨.other, 1, 8, [.pointer none]⟩),
  (112, ⟨.other, 1, 8, [.nilFunc]⟩),
  (113, ⟨.other, 1, 8, [.nilFunc]⟩),
  (114, ⟨.other, 1, 8, [.pointer none]⟩),
  (115, ⟨.other, 1, 8, [.nilFunc]⟩),
  (116, ⟨.other, 1, 8, [.nilFunc]⟩),
  (117, ⟨.other, 1, 8, [.pointer none]⟩),
  (118, ⟨.other, 1, 8, [.nilFunc]⟩),
  (119, ⟨.other, 1, 8, [.nilFunc]⟩),
  (120, ⟨.other, 1, 8, [.pointer none]⟩),
  (121, ⟨.other, 1, 8, [.nilFunc]⟩),
  (122, ⟨.struct [(58, 0), (26, 16), (26, 17), (26, 18)], 19, 76, [.float .f32 0, .float .f32 0, .float .f32 0, .float .f32 0, .float .f32 0, .float .f32 0, .float .f32 0, .float .f32 0, .float .f32 0, .float .f32 0, .float .f32 0, .float .f32 0, .float .f32 0, .float .f32 0, .float .f32 0, .float .f32 0, .float .f32 0, .float .f32 0, .float .f32 0]⟩),
  (123, ⟨.struct [(58, 0), (26, 16), (26, 17), (26, 18)], 19, 76, [.float .f32 0, .float .f32 0, .float .f32 0, .float .f32 0, .float .f32 0, .float .f32 0, .float .f32 0, .float .f32 0, .float .f32 0, .float .f32 0, .float .f32 0, .float .f32 0, .float .f32 0, .float .f32 0, .float .f32 0, .float .f32 0, .float .f32 0, .float .f32 0, .float .f32 0]⟩),
  (124, ⟨.other, 1, 8, [.nilFunc]⟩),
  (125, ⟨.other, 1, 8, [.nilFunc]⟩),
  (126, ⟨.other, 1, 8, [.nilFunc]⟩),
  (127, ⟨.other, 1, 8, [.nilFunc]⟩),
  (128, ⟨.other, 1, 8, [.nilFunc]⟩),
  (129, ⟨.other, 1, 8, [.nilFunc]⟩),
  (130, ⟨.other, 1, 8, [.nilFunc]⟩),
  (131, ⟨.other, 1, 8, [.nilFunc]⟩),
  (132, ⟨.other, 1, 8, [.nilFunc]⟩),
  (133, ⟨.other, 1, 8, [.nilFunc]⟩),
  (134, ⟨.int .u64, 1, 8, [.int .u64 0]⟩),
  (135, ⟨.int .u32, 1, 4, [.int .u32 0]⟩),
  (136, ⟨.other, 1, 8, [.nilFunc]⟩),
  (137, ⟨.other, 1, 8, [.nilFunc]⟩),
  (138, ⟨.other, 1, 8, [.nilFunc]⟩),
  (139, ⟨.array 8 4, 8, 8, [.bool false, .bool false, .bool false, .bool false, .bool false, .bool false, .bool false, .bool false]⟩),
  (140, ⟨.array 8 4, 8, 8, [.bool false, .bool false, .bool false, .bool false, .bool false, .bool false, .bool false, .bool false]⟩),
  (141, ⟨.struct [(140, 0), (2, 8)], 9, 16, [.bool false, .bool false, .bool false, .bool false, .bool false, .bool false, .bool false, .bool false, .int .i64 0]⟩),
  (142, ⟨.struct [(140, 0), (2, 8)], 9, 16, [.bool false, .bool false, .bool false, .bool false, .bool false, .bool false, .bool false, .bool false, .int .i64 0]⟩),
  (143, ⟨.other, 1, 8, [.nilFunc]⟩),
  (144, ⟨.other, 1, 8, [.nilFunc]⟩),
  (145, ⟨.other, 1, 8, [.pointer none]⟩),
  (146, ⟨.slice 5, 1, 24, [.slice none 0 0]⟩),
  (147, ⟨.struct [(145, 0), (146, 1)], 2, 32, [.pointer none, .slice none 0 0]⟩),
  (148, ⟨.struct [(145, 0), (146, 1)], 2, 32, [.pointer none, .slice none 0 0]⟩),
  (149, ⟨.other, 1, 8, [.nilFunc]⟩),
  (153, ⟨.other, 1, 8, [.nilFunc]⟩),
  (154, ⟨.other, 1, 8, [.nilFunc]⟩),
  (155, ⟨.other, 1, 8, [.nilFunc]⟩),
  (156, ⟨.other, 1, 8, [.nilFunc]⟩),
  (157, ⟨.other, 1, 8, [.nilFunc]⟩),
  (159, ⟨.other, 1, 8, [.nilFunc]⟩),
  (161, ⟨.other, 1, 8, [.nilFunc]⟩),
  (163, ⟨.other, 1, 8, [.nilFunc]⟩),
  (165, ⟨.other, 1, 8, [.nilFunc]⟩),
  (166, ⟨.other, 1, 8, [.nilFunc]⟩),
  (168, ⟨.other, 1, 8, [.nilFunc]⟩),
  (170, ⟨.other, 1, 8, [.nilFunc]⟩),
  (171, ⟨.other, 1, 8, [.nilFunc]⟩),
  (172, ⟨.other, 1, 8, [.nilFunc]⟩),
  (174, ⟨.other, 1, 8, [.nilFunc]⟩),
  (176, ⟨.other, 1, 8, [.nilFunc]⟩),
  (177, ⟨.other, 1, 8, [.nilFunc]⟩),
  (178, ⟨.other, 1, 8, [.nilFunc]⟩),
  (179, ⟨.other, 1, 8, [.nilFunc]⟩),
  (180, ⟨.other, 1, 8, [.nilFunc]⟩),
  (181, ⟨.other, 1, 8, [.nilFunc]⟩),
  (182, ⟨.other, 1, 8, [.nilFunc]⟩),
  (183, ⟨.other, 1, 8, [.nilFunc]⟩),
  (184, ⟨.other, 1, 8, [.nilFunc]⟩),
  (185, ⟨.other, 1, 8, [.nilFunc]⟩),
  (186, ⟨.other, 1, 8, [.nilFunc]⟩),
  (187, ⟨.other, 1, 8, [.nilFunc]⟩),
  (188, ⟨.other, 1, 8, [.nilFunc]⟩),
  (189, ⟨.other, 1, 8, [.nilFunc]⟩),
  (190, ⟨.other, 1, 8, [.nilFunc]⟩),
  (191, ⟨.other, 1, 8, [.nilFunc]⟩),
  (192, ⟨.other, 1, 8, [.nilFunc]⟩),
  (193, ⟨.other, 1, 8, [.nilFunc]⟩),
  (194, ⟨.other, 1, 8, [.nilFunc]⟩),
  (195, ⟨.other, 1, 8, [.nilFunc]⟩),
  (196, ⟨.other, 1, 8, [.nilFunc]⟩),
  (197, ⟨.other, 1, 8, [.nilFunc]⟩),
  (198, ⟨.other, 1, 8, [.nilFunc]⟩),
  (199, ⟨.other, 1, 8, [.nilFunc]⟩),
  (200, ⟨.other, 1, 8, [.nilFunc]⟩),
  (201, ⟨.int .u64, 1, 8, [.int .u64 0]⟩),
  (203, ⟨.other, 1, 8, [.nilFunc]⟩),
  (204, ⟨.other, 1, 8, [.nilFunc]⟩),
  (205, ⟨.other, 1, 8, [.pointer none]⟩),
  (206, ⟨.other, 1, 8, [.nilFunc]⟩),
  (207, ⟨.other, 1, 8, [.nilFunc]⟩),
  (208, ⟨.other, 1, 8, [.nilFunc]⟩),
  (209, ⟨.other, 1, 8, [.nilFunc]⟩),
  (211, ⟨.other, 1, 8, [.nilFunc]⟩),
  (212, ⟨.other, 1, 8, [.nilFunc]⟩),
  (213, ⟨.other, 1, 8, [.nilFunc]⟩),
  (214, ⟨.other, 1, 8, [.nilFunc]⟩),
  (216, ⟨.other, 1, 8, [.nilFunc]⟩),
  (218, ⟨.other, 1, 8, [.nilFunc]⟩),
  (219, ⟨.other, 1, 8, [.nilFunc]⟩),
  (220, ⟨.other, 1, 8, [.nilFunc]⟩),
  (221, ⟨.other, 1, 8, [.nilFunc]⟩),
  (222, ⟨.other, 1, 8, [.nilFunc]⟩),
  (223, ⟨.other, 1, 8, [.nilFunc]⟩),
  (224, ⟨.other, 1, 8, [.nilFunc]⟩),
  (225, ⟨.other, 1, 8, [.nilFunc]⟩),
  (226, ⟨.other, 1, 8, [.nilFunc]⟩),
  (227, ⟨.other, 1, 8, [.nilFunc]⟩),
  (228, ⟨.struct [(139, 0), (2, 8)], 9, 16, [.bool false, .bool false, .bool false, .bool false, .bool false, .bool false, .bool false, .bool false, .int .i64 0]⟩),
  (229, ⟨.struct [(139, 0), (2, 8)], 9, 16, [.bool false, .bool false, .bool false, .bool false, .bool false, .bool false, .bool false, .bool false, .int .i64 0]⟩),
  (230, ⟨.other, 1, 8, [.nilFunc]⟩),
  (231, ⟨.other, 1, 8, [.nilFunc]⟩),
  (232, ⟨.other, 1, 8, [.nilFunc]⟩),
  (233, ⟨.other, 1, 8, [.nilFunc]⟩),
  (234, ⟨.other, 1, 8, [.nilFunc]⟩),
  (235, ⟨.other, 1, 8, [.nilFunc]⟩),
  (236, ⟨.other, 1, 8, [.nilFunc]⟩),
  (237, ⟨.other, 1, 8, [.nilFunc]⟩),
  (238, ⟨.array 24 5, 24, 24, [.int .u8 0, .int .u8 0, .int .u8 0, .int .u8 0, .int .u8 0, .int .u8 0, .int .u8 0, .int .u8 0, .int .u8 0, .int .u8 0, .int .u8 0, .int .u8 0, .int .u8 0, .int .u8 0, .int .u8 0, .int .u8 0, .int .u8 0, .int .u8 0, .int .u8 0, .int .u8 0, .int .u8 0, .int .u8 0, .int .u8 0, .int .u8 0]⟩),
  (239, ⟨.other, 1, 8, [.nilFunc]⟩),
  (240, ⟨.other, 1, 8, [.nilFunc]⟩),
  (242, ⟨.other, 1, 8, [.nilFunc]⟩),
  (244, ⟨.other, 1, 8, [.nilFunc]⟩),
  (246, ⟨.other, 1, 8, [.nilFunc]⟩),
  (248, ⟨.other, 1, 8, [.nilFunc]⟩),
  (249, ⟨.other, 1, 8, [.nilFunc]⟩),
  (250, ⟨.other, 1, 8, [.nilFunc]⟩),
  (251, ⟨.other, 1, 8, [.nilFunc]⟩),
  (252, ⟨.other, 1, 8, [.nilFunc]⟩),
  (253, ⟨.other, 1, 8, [.nilFunc]⟩),
  (255, ⟨.other, 1, 8, [.nilFunc]⟩),
  (256, ⟨.other, 1, 8, [.nilFunc]⟩),
  (257, ⟨.int .i64, 1, 8, [.int .i64 0]⟩),
  (258, ⟨.other, 1, 8, [.pointer none]⟩),
  (259, ⟨.other, 1, 8, [.nilFunc]⟩),
  (260, ⟨.other, 1, 8, [.nilFunc]⟩),
  (261, ⟨.other, 1, 8, [.nilFunc]⟩),
  (262, ⟨.other, 1, 8, [.nilFunc]⟩),
  (263, ⟨.other, 1, 8, [.nilFunc]⟩),
  (264, ⟨.other, 1, 8, [.nilFunc]⟩),
  (265, ⟨.other, 1, 8, [.nilFunc]⟩),
  (266, ⟨.array 20 134, 20, 160, [.int .u64 0, .int .u64 0, .int .u64 0, .int .u64 0, .int .u64 0, .int .u64 0, .int .u64 0, .int .u64 0, .int .u64 0, .int .u64 0, .int .u64 0, .int .u64 0, .int .u64 0, .int .u64 0, .int .u64 0, .int .u64 0, .int .u64 0, .int .u64 0, .int .u64 0, .int .u64 0]⟩),
  (267, ⟨.array 65 5, 65, 65, [.int .u8 0, .int .u8 0, .int .u8 0, .int .u8 0, .int .u8 0, .int .u8 0, .int .u8 0, .int .u8 0, .int .u8 0, .int .u8 0, .int .u8 0, .int .u8 0, .int .u8 0, .int .u8 0, .int .u8 0, .int .u8 0, .int .u8 0, .int .u8 0, .int .u8 0, .int .u8 0, .int .u8 0, .int .u8 0, .int .u8 0, .int .u8 0, .int .u8 0, .int .u8 0, .int .u8 0, .int .u8 0, .int .u8 0, .int .u8 0, .int .u8 0, .int .u8 0, .int .u8 0, .int .u8 0, .int .u8 0, .int .u8 0, .int .u8 0, .int .u8 0, .int .u8 0, .int .u8 0, .int .u8 0, .int .u8 0, .int .u8 0, .int .u8 0, .int .u8 0, .int .u8 0, .int .u8 0, .int .u8 0, .int .u8 0, .int .u8 0, .int .u8 0, .int .u8 0, .int .u8 0, .int .u8 0, .int .u8 0, .int .u8 0, .int .u8 0, .int .u8 0, .int .u8 0, .int .u8 0, .int .u8 0, .int .u8 0, .int .u8 0, .int .u8 0, .int .u8 0]⟩),
  (268, ⟨.other, 1, 8, [.nilFunc]⟩),
  (269, ⟨.other, 1, 8, [.nilFunc]⟩),
  (270, ⟨.other, 1, 8, [.nilFunc]⟩),
  (271, ⟨.other, 1, 8, [.nilFunc]⟩),
  (272, ⟨.other, 1, 8, [.nilFunc]⟩),
  (275, ⟨.other, 1, 8, [.nilFunc]⟩),
  (276, ⟨.other, 1, 8, [.nilFunc]⟩),
  (277, ⟨.array 256 5, 256, 256, [.int .u8 0, .int .u8 0, .int .u8 0, .int .u8 0, .int .u8 0, .int .u8 0, .int .u8 0, .int .u8 0, .int .u8 0, .int .u8 0, .int .u8 0, .int .u8 0, .int .u8 0, .int .u8 0, .int .u8 0, .int .u8 0, .int .u8 0, .int .u8 0, .int .u8 0, .int .u8 0, .int .u8 0, .int .u8 0, .int .u8 0, .int .u8 0, .int .u8 0, .int .u8 0, .int .u8 0, .int .u8 0, .int .u8 0, .int .u8 0, .int .u8 0, .int .u8 0, .int .u8 0, .int .u8 0, .int .u8 0, .int .u8 0, .int .u8 0, .int .u8 0, .int .u8 0, .int .u8 0, .int .u8 0, .int .u8 0, .int .u8 0, .int .u8 0, .int .u8 0, .int .u8 0, .int .u8 0, .int .u8 0, .int .u8 0, .int .u8 0, .int .u8 0, .int .u8 0, .int .u8 0, .int .u8 0, .int .u8 0, .int .u8 0, .int .u8 0, .int .u8 0, .int .u8 0, .int .u8 0, .int .u8 0, .int .u8 0, .int .u8 0, .int .u8 0, .int .u8 0, .int .u8 0, .int .u8 0, .int .u8 0, .int .u8 0, .int .u8 0, .int .u8 0, .int .u8 0, .int .u8 0, .int .u8 0, .int .u8 0, .int .u8 0, .int .u8 0, .int .u8 0, .int .u8 0, .int .u8 0, .int .u8 0, .int .u8 0, .int .u8 0, .int .u8 0, .int .u8 0, .int .u8 0, .int .u8 0, .int .u8 0, .int .u8 0, .int .u8 0, .int .u8 0, .int .u8 0, .int .u8 0, .int .u8 0, .int .u8 0, .int .u8 0, .int .u8 0, .int .u8 0, .int .u8 0, .int .u8 0, .int .u8 0, .int .u8 0, .int .u8 0, .int .u8 0, .int .u8 0, .int .u8 0, .int .u8 0, .int .u8 0, .int .u8 0, .int .u8 0, .int .u8 0, .int .u8 0, .int .u8 0, .int .u8 0, .int .u8 0, .int .u8 0, .int .u8 0, .int .u8 0, .int .u8 0, .int .u8 0, .int .u8 0, .int .u8 0, .int .u8 0, .int .u8 0, .int .u8 0, .int .u8 0, .int .u8 0, .int .u8 0, .int .u8 0, .int .u8 0, .int .u8 0, .int .u8 0, .int .u8 0, .int .u8 0, .int .u8 0, .int .u8 0, .int .u8 0, .int .u8 0, .int .u8 0, .int .u8 0, .int .u8 0, .int .u8 0, .int .u8 0, .int .u8 0, .int .u8 0, .int .u8 0, .int .u8 0, .int .u8 0, .int .u8 0, .int .u8 0, .int .u8 0, .int .u8 0, .int .u8 0, .int .u8 0, .int .u8 0, .int .u8 0, .int .u8 0, .int .u8 0, .int .u8 0, .int .u8 0, .int .u8 0, .int .u8 0, .int .u8 0, .int .u8 0, .int .u8 0, .int .u8 0, .int .u8 0, .int .u8 0, .int .u8 0, .int .u8 0, .int .u8 0, .int .u8 0, .int .u8 0, .int .u8 0, .int .u8 0, .int .u8 0, .int .u8 0, .int .u8 0, .int .u8 0, .int .u8 0, .int .u8 0, .int .u8 0, .int .u8 0, .int .u8 0, .int .u8 0, .int .u8 0, .int .u8 0, .int .u8 0, .int .u8 0, .int .u8 0, .int .u8 0, .int .u8 0, .int .u8 0, .int .u8 0, .int .u8 0, .int .u8 0, .int .u8 0, .int .u8 0, .int .u8 0, .int .u8 0, .int .u8 0, .int .u8 0, .int .u8 0, .int .u8 0, .int .u8 0, .int .u8 0, .int .u8 0, .int .u8 0, .int .u8 0, .int .u8 0, .int .u8 0, .int .u8 0, .int .u8 0, .int .u8 0, .int .u8 0, .int .u8 0, .int .u8 0, .int .u8 0, .int .u8 0, .int .u8 0, .int .u8 0, .int .u8 0, .int .u8 0, .int .u8 0, .int .u8 0, .int .u8 0, .int .u8 0, .int .u8 0, .int .u8 0, .int .u8 0, .int .u8 0, .int .u8 0, .int .u8 0, .int .u8 0, .int .u8 0, .int .u8 0, .int .u8 0, .int .u8 0, .int .u8 0, .int .u8 0, .int .u8 0, .int .u8 0, .int .u8 0, .int .u8 0, .int .u8 0, .int .u8 0, .int .u8 0, .int .u8 0, .int .u8 0, .int .u8 0, .int .u8 0, .int .u8 0, .int .u8 0, .int .u8 0, .int .u8 0, .int .u8 0]⟩),
  (278, ⟨.struct [(5, 0), (5, 1)], 2, 2, [.int .u8 0, .int .u8 0]⟩),
  (279, ⟨.struct [(5, 0), (5, 1)], 2, 2, [.int .u8 0, .int .u8 0]⟩),
  (280, ⟨.array 16 279, 32, 32, [.int .u8 0, .int .u8 0, .int .u8 0, .int .u8 0, .int .u8 0, .int .u8 0, .int .u8 0, .int .u8 0, .int .u8 0, .int .u8 0, .int .u8 0, .int .u8 0, .int .u8 0, .int .u8 0, .int .u8 0, .int .u8 0, .int .u8 0, .int .u8 0, .int .u8 0, .int .u8 0, .int .u8 0, .int .u8 0, .int .u8 0, .int .u8 0, .int .u8 0, .int .u8 0, .int .u8 0, .int .u8 0, .int .u8 0, .int .u8 0, .int .u8 0, .int .u8 0]⟩),
  (281, ⟨.other, 1, 8, [.nilFunc]⟩),
  (282, ⟨.other, 1, 8, [.pointer none]⟩),
  (283, ⟨.struct [(9, 0)], 1, 16, [.string ⟨#[]⟩]⟩),
  (284, ⟨.struct [(9, 0)], 1, 16, [.string ⟨#[]⟩]⟩),
  (285, ⟨.array 32 5, 32, 32, [.int .u8 0, .int .u8 0, .int .u8 0, .int .u8 0, .int .u8 0, .int .u8 0, .int .u8 0, .int .u8 0, .int .u8 0, .int .u8 0, .int .u8 0, .int .u8 0, .int .u8 0, .int .u8 0, .int .u8 0, .int .u8 0, .int .u8 0, .int .u8 0, .int .u8 0, .int .u8 0, .int .u8 0, .int .u8 0, .int .u8 0, .int .u8 0, .int .u8 0, .int .u8 0, .int .u8 0, .int .u8 0, .int .u8 0, .int .u8 0, .int .u8 0, .int .u8 0]⟩),
  (286, ⟨.array 64 5, 64, 64, [.int .u8 0, .int .u8 0, .int .u8 0, .int .u8 0, .int .u8 0, .int .u8 0, .int .u8 0, .int .u8 0, .int .u8 0, .int .u8 0, .int .u8 0, .int .u8 0, .int .u8 0, .int .u8 0, .int .u8 0, .int .u8 0, .int .u8 0, .int .u8 0, .int .u8 0, .int .u8 0, .int .u8 0, .int .u8 0, .int .u8 0, .int .u8 0, .int .u8 0, .int .u8 0, .int .u8 0, .int .u8 0, .int .u8 0, .int .u8 0, .int .u8 0, .int .u8 0, .int .u8 0, .int .u8 0, .int .u8 0, .int .u8 0, .int .u8 0, .int .u8 0, .int .u8 0, .int .u8 0, .int .u8 0, .int .u8 0, .int .u8 0, .int .u8 0, .int .u8 0, .int .u8 0, .int .u8 0, .int .u8 0, .int .u8 0, .int .u8 0, .int .u8 0, .int .u8 0, .int .u8 0, .int .u8 0, .int .u8 0, .int .u8 0, .int .u8 0, .int .u8 0, .int .u8 0, .int .u8 0, .int .u8 0, .int .u8 0, .int .u8 0, .int .u8 0]⟩),
  (287, ⟨.struct [(17, 0), (17, 1), (17, 2), (9, 3)], 4, 40, [.pointer none, .pointer none, .pointer none, .string ⟨#[]⟩]⟩),
  (288, ⟨.struct [(17, 0), (17, 1), (17, 2), (9, 3)], 4, 40, [.pointer none, .pointer none, .pointer none, .string ⟨#[]⟩]⟩),
  (289, ⟨.array 0 16, 0, 0, []⟩),
  (292, ⟨.int .u8, 1, 1, [.int .u8 0]⟩),
  (293, ⟨.int .u8, 1, 1, [.int .u8 0]⟩),
  (294, ⟨.other, 1, 8, [.nilFunc]⟩),
  (295, ⟨.int .i32, 1, 4, [.int .i32 0]⟩),
  (296, ⟨.int .i32, 1, 4, [.int .i32 0]⟩),
  (297, ⟨.struct [(12, 0), (12, 1), (135, 2), (292, 3), (5, 4), (5, 5), (293, 6), (294, 7), (205, 8), (295, 9), (296, 10)], 11, 48, [.int .u64 0, .int .u64 0, .int .u32 0, .int .u8 0, .int .u8 0, .int .u8 0, .int .u8 0, .nilFunc, .pointer none, .int .i32 0, .int .i32 0]⟩),
  (298, ⟨.struct [(12, 0), (12, 1), (135, 2), (292, 3), (5, 4), (5, 5), (293, 6), (294, 7), (205, 8), (295, 9), (296, 10)], 11, 48, [.int .u64 0, .int .u64 0, .int .u32 0, .int .u8 0, .int .u8 0, .int .u8 0, .int .u8 0, .nilFunc, .pointer none, .int .i32 0, .int .i32 0]⟩),
  (299, ⟨.other, 1, 8, [.nilFunc]⟩),
  (300, ⟨.other, 1, 8, [.nilFunc]⟩)]
theorem layT_ok : ∀ p ∈ layT, layOf Go.Proofs.Tryz.prog p.1 = some p.2 := by
  unfold layT
  refine List.forall_mem_cons.2 ⟨by kernel_rfl, ?_⟩
  refine List.forall_mem_cons.2 ⟨by kernel_rfl, ?_⟩
  refine List.forall_mem_cons.2 ⟨by kernel_rfl, ?_⟩
  refine List.forall_mem_cons.2 ⟨by kernel_rfl, ?_⟩
  refine List.forall_mem_cons.2 ⟨by kernel_rfl, ?_⟩
  refine List.forall_mem_cons.2 ⟨by kernel_rfl, ?_⟩
  refine List.forall_mem_cons.2 ⟨by kernel_rfl, ?_⟩
  refine List.forall_mem_cons.2 ⟨by kernel_rfl, ?_⟩
  refine List.forall_mem_cons.2 ⟨by kernel_rfl, ?_⟩
  refine List.forall_mem_cons.2 ⟨by kernel_rfl, ?_⟩
  refine List.forall_mem_cons.2 ⟨by kernel_rfl, ?_⟩
  refine List.forall_mem_cons.2 ⟨by kernel_rfl, ?_⟩
  refine List.forall_mem_cons.2 ⟨by kernel_rfl, ?_⟩
  refine List.forall_mem_cons.2 ⟨by kernel_rfl, ?_⟩
  refine List.forall_mem_cons.2 ⟨by kernel_rfl, ?_⟩
  refine List.forall_mem_cons.2 ⟨by kernel_rfl, ?_⟩
  refine List.forall_mem_cons.2 ⟨by kernel_rfl, ?_⟩
  refine List.forall_mem_cons.2 ⟨by kernel_rfl, ?_⟩
  refine List.forall_mem_cons.2 ⟨by kernel_rfl, ?_⟩
  refine List.forall_mem_cons.2 ⟨by kernel_rfl, ?_⟩
  refine List.forall_mem_cons.2 ⟨by kernel_rfl, ?_⟩
  refine List.forall_mem_cons.2 ⟨by kernel_rfl, ?_⟩
  refine List.forall_mem_cons.2 ⟨by kernel_rfl, ?_⟩
  refine List.forall_mem_cons.2 ⟨by kernel_rfl, ?_⟩
  refine List.forall_mem_cons.2 ⟨by kernel_rfl, ?_⟩
  refine List.forall_mem_cons.2 ⟨by kernel_rfl, ?_⟩
  refine List.forall_mem_cons.2 ⟨by kernel_rfl, ?_⟩
  refine List.forall_mem_cons.2 ⟨by kernel_rfl, ?_⟩
  refine List.forall_mem_cons.2 ⟨by kernel_rfl, ?_⟩
  refine List.forall_mem_cons.2 ⟨by kernel_rfl, ?_⟩
  refine List.forall_mem_cons.2 ⟨by kernel_rfl, ?_⟩
  refine List.forall_mem_cons.2 ⟨by kernel_rfl, ?_⟩
  refine List.forall_mem_cons.2 ⟨by kernel_rfl, ?_⟩
  refine List.forall_mem_cons.2 ⟨by kernel_rfl, ?_⟩
  refine List.forall_mem_cons.2 ⟨by kernel_rfl, ?_⟩
  refine List.forall_mem_cons.2 ⟨by kernel_rfl, ?_⟩
  refine List.forall_mem_cons.2 ⟨by kernel_rfl, ?_⟩
  refine List.forall_mem_cons.2 ⟨by kernel_rfl, ?_⟩
  refine List.forall_mem_cons.2 ⟨by kernel_rfl, ?_⟩
  refine List.forall_mem_cons.2 ⟨by kernel_rfl, ?_⟩
  refine List.forall_mem_cons.2 ⟨by kernel_rfl, ?_⟩
  refine List.forall_mem_cons.2 ⟨by kernel_rfl, ?_⟩
  refine List.forall_mem_cons.2 ⟨by kernel_rfl, ?_⟩
  refine List.forall_mem_cons.2 ⟨by kernel_rfl, ?_⟩
  refine List.forall_mem_cons.2 ⟨by kernel_rfl, ?_⟩
  refine List.forall_mem_cons.2 ⟨by kernel_rfl, ?_⟩
  refine List.forall_mem_cons.2 ⟨by kernel_rfl, ?_⟩
  refine List.forall_mem_cons.2 ⟨by kernel_rfl, ?_⟩
  refine List.forall_mem_cons.2 ⟨by kernel_rfl, ?_⟩
  refine List.forall_mem_cons.2 ⟨by kernel_rfl, ?_⟩
  refine List.forall_mem_cons.2 ⟨by kernel_rfl, ?_⟩
  refine List.forall_mem_cons.2 ⟨by kernel_rfl, ?_⟩
  refine List.forall_mem_cons.2 ⟨by kernel_rfl, ?_⟩
  refine List.forall_mem_cons.2 ⟨by kernel_rfl, ?_⟩
  refine List.forall_mem_cons.2 ⟨by kernel_rfl, ?_⟩
  refine List.forall_mem_cons.2 ⟨by kernel_rfl, ?_⟩
  refine List.forall_mem_cons.2 ⟨by kernel_rfl, ?_⟩
  refine List.forall_mem_cons.2 ⟨by kernel_rfl, ?_⟩
  refine List.forall_mem_cons.2 ⟨by kernel_rfl, ?_⟩
  refine List.forall_mem_cons.2 ⟨by kernel_rfl, ?_⟩
  refine List.forall_mem_cons.2 ⟨by kernel_rfl, ?_⟩
  refine List.forall_mem_cons.2 ⟨by kernel_rfl, ?_⟩
  refine List.forall_mem_cons.2 ⟨by kernel_rfl, ?_⟩
  refine List.forall_mem_cons.2 ⟨by kernel_rfl, ?_⟩
  refine List.forall_mem_cons.2 ⟨by kernel_rfl, ?_⟩
  refine List.forall_mem_cons.2 ⟨by kernel_rfl, ?_⟩
  refine List.forall_mem_cons.2 ⟨by kernel_rfl, ?_⟩
  refine List.forall_mem_cons.2 ⟨by kernel_rfl, ?_⟩
  refine List.forall_mem_cons.2 ⟨by kernel_rfl, ?_⟩
  refine List.forall_mem_cons.2 ⟨by kernel_rfl, ?_⟩
  refine List.forall_mem_cons.2 ⟨by kernel_rfl, ?_⟩
  refine List.forall_mem_cons.2 ⟨by kernel_rfl, ?_⟩
  refine List.forall_mem_cons.2 ⟨by kernel_rfl, ?_⟩
  refine List.forall_mem_cons.2 ⟨by kernel_rfl, ?_⟩
  refine List.forall_mem_cons.2 ⟨by kernel_rfl, ?_⟩
  refine List.forall_mem_cons.2 ⟨by kernel_rfl, ?_⟩
  refine List.forall_mem_cons.2 ⟨by kernel_rfl, ?_⟩
  refine List.forall_mem_cons.2 ⟨by kernel_rfl, ?_⟩
  refine List.forall_mem_cons.2 ⟨by kernel_rfl, ?_⟩
  refine List.forall_mem_cons.2 ⟨by kernel_rfl, ?_⟩
  refine List.forall_mem_cons.2 ⟨by kernel_rfl, ?_⟩
  refine List.forall_mem_cons.2 ⟨by kernel_rfl, ?_⟩
  refine List.forall_mem_cons.2 ⟨by kernel_rfl, ?_⟩
  refine List.forall_mem_cons.2 ⟨by kernel_rfl, ?_⟩
  refine List.forall_mem_cons.2 ⟨by kernel_rfl, ?_⟩
  refine List.forall_mem_cons.2 ⟨by kernel_rfl, ?_⟩
  refine List.forall_mem_cons.2 ⟨by kernel_rfl, ?_⟩
  refine List.forall_mem_cons.2 ⟨by kernel_rfl, ?_⟩
  refine List.forall_mem_cons.2 ⟨by kernel_rfl, ?_⟩
  refine List.forall_mem_cons.2 ⟨by kernel_rfl, ?_⟩
  refine List.forall_mem_cons.2 ⟨by kernel_rfl, ?_⟩
  refine List.forall_mem_cons.2 ⟨by kernel_rfl, ?_⟩
  refine List.forall_mem_cons.2 ⟨by kernel_rfl, ?_⟩
  refine List.forall_mem_cons.2 ⟨by kernel_rfl, ?_⟩
  refine List.forall_mem_cons.2 ⟨by kernel_rfl, ?_⟩
  refine List.forall_mem_cons.2 ⟨by kernel_rfl, ?_⟩
  refine List.forall_mem_cons.2 ⟨by kernel_rfl, ?_⟩
  refine List.forall_mem_cons.2 ⟨by kernel_rfl, ?_⟩
  refine List.forall_mem_cons.2 ⟨by kernel_rfl, ?_⟩
  refine List.forall_mem_cons.2 ⟨by kernel_rfl, ?_⟩
  refine List.forall_mem_cons.2 ⟨by kernel_rfl, ?_⟩
  refine List.forall_mem_cons.2 ⟨by kernel_rfl, ?_⟩
  refine List.forall_mem_cons.2 ⟨by kernel_rfl, ?_⟩
  refine List.forall_mem_cons.2 ⟨by kernel_rfl, ?_⟩
  refine List.forall_mem_cons.2 ⟨by kernel_rfl, ?_⟩
  refine List.forall_mem_cons.2 ⟨by kernel_rfl, ?_⟩
  refine List.forall_mem_cons.2 ⟨by kernel_rfl, ?_⟩
  refine List.forall_mem_cons.2 ⟨by kernel_rfl, ?_⟩
  refine List.forall_mem_cons.2 ⟨by kernel_rfl, ?_⟩
  refine List.forall_mem_cons.2 ⟨by kernel_rfl, ?_⟩
  refine List.forall_mem_cons.2 ⟨by kernel_rfl, ?_⟩
  refine List.forall_mem_cons.2 ⟨by kernel_rfl, ?_⟩
  refine List.forall_mem_cons.2 ⟨by kernel_rfl, ?_⟩
  refine List.forall_mem_cons.2 ⟨by kernel_rfl, ?_⟩
  refine List.forall_mem_cons.2 ⟨by kernel_rfl, ?_⟩
  refine List.forall_mem_cons.2 ⟨by kernel_rfl, ?_⟩
  refine List.forall_mem_cons.2 ⟨by kernel_rfl, ?_⟩
  refine List.forall_mem_cons.2 ⟨by kernel_rfl, ?_⟩
  refine List.forall_mem_cons.2 ⟨by kernel_rfl, ?_⟩
  refine List.forall_mem_cons.2 ⟨by kernel_rfl, ?_⟩
  refine List.forall_mem_cons.2 ⟨by kernel_rfl, ?_⟩
  refine List.forall_mem_cons.2 ⟨by kernel_rfl, ?_⟩
  refine List.forall_mem_cons.2 ⟨by kernel_rfl, ?_⟩
  refine List.forall_mem_cons.2 ⟨by kernel_rfl, ?_⟩
  refine List.forall_mem_cons.2 ⟨by kernel_rfl, ?_⟩
  refine List.forall_mem_cons.2 ⟨by kernel_rfl, ?_⟩
  refine List.forall_mem_cons.2 ⟨by kernel_rfl, ?_⟩
  refine List.forall_mem_cons.2 ⟨by kernel_rfl, ?_⟩
  refine List.forall_mem_cons.2 ⟨by kernel_rfl, ?_⟩
  refine List.forall_mem_cons.2 ⟨by kernel_rfl, ?_⟩
  refine List.forall_mem_cons.2 ⟨by kernel_rfl, ?_⟩
  refine List.forall_mem_cons.2 ⟨by kernel_rfl, ?_⟩
  refine List.forall_mem_cons.2 ⟨by kernel_rfl, ?_⟩
  refine List.forall_mem_cons.2 ⟨by kernel_rfl, ?_⟩
  refine List.forall_mem_cons.2 ⟨by kernel_rfl, ?_⟩
  refine List.forall_mem_cons.2 ⟨by kernel_rfl, ?_⟩
  refine List.forall_mem_cons.2 ⟨by kernel_rfl, ?_⟩
  refine List.forall_mem_cons.2 ⟨by kernel_rfl, ?_⟩
  refine List.forall_mem_cons.2 ⟨by kernel_rfl, ?_⟩
  refine List.forall_mem_cons.2 ⟨by kernel_rfl, ?_⟩
  refine List.forall_mem_cons.2 ⟨by kernel_rfl, ?_⟩
  refine List.forall_mem_cons.2 ⟨by kernel_rfl, ?_⟩
  refine List.forall_mem_cons.2 ⟨by kernel_rfl, ?_⟩
  refine List.forall_mem_cons.2 ⟨by kernel_rfl, ?_⟩
  refine List.forall_mem_cons.2 ⟨by kernel_rfl, ?_⟩
  refine List.forall_mem_cons.2 ⟨by kernel_rfl, ?_⟩
  refine List.forall_mem_cons.2 ⟨by kernel_rfl, ?_⟩
  refine List.forall_mem_cons.2 ⟨by kernel_rfl, ?_⟩
  refine List.forall_mem_cons.2 ⟨by kernel_rfl, ?_⟩
  refine List.forall_mem_cons.2 ⟨by kernel_rfl, ?_⟩
  refine List.forall_mem_cons.2 ⟨by kernel_rfl, ?_⟩
  refine List.forall_mem_cons.2 ⟨by kernel_rfl, ?_⟩
  refine List.forall_mem_cons.2 ⟨by kernel_rfl, ?_⟩
  refine List.forall_mem_cons.2 ⟨by kernel_rfl, ?_⟩
  refine List.forall_mem_cons.2 ⟨by kernel_rfl, ?_⟩
  refine List.forall_mem_cons.2 ⟨by kernel_rfl, ?_⟩
  refine List.forall_mem_cons.2 ⟨by kernel_rfl, ?_⟩
  refine List.forall_mem_cons.2 ⟨by kernel_rfl, ?_⟩
  refine List.forall_mem_cons.2 ⟨by kernel_rfl, ?_⟩
  refine List.forall_mem_cons.2 ⟨by kernel_rfl, ?_⟩
  refine List.forall_mem_cons.2 ⟨by kernel_rfl, ?_⟩
  refine List.forall_mem_cons.2 ⟨by kernel_rfl, ?_⟩
  refine List.forall_mem_cons.2 ⟨by kernel_rfl, ?_⟩
  refine List.forall_mem_cons.2 ⟨by kernel_rfl, ?_⟩
  refine List.forall_mem_cons.2 ⟨by kernel_rfl, ?_⟩
  refine List.forall_mem_cons.2 ⟨by kernel_rfl, ?_⟩
  refine List.forall_mem_cons.2 ⟨by kernel_rfl, ?_⟩
  refine List.forall_mem_cons.2 ⟨by kernel_rfl, ?_⟩
  refine List.forall_mem_cons.2 ⟨by kernel_rfl, ?_⟩
  refine List.forall_mem_cons.2 ⟨by kernel_rfl, ?_⟩
  refine List.forall_mem_cons.2 ⟨by kernel_rfl, ?_⟩
  refine List.forall_mem_cons.2 ⟨by kernel_rfl, ?_⟩
  refine List.forall_mem_cons.2 ⟨by kernel_rfl, ?_⟩
  refine List.forall_mem_cons.2 ⟨by kernel_rfl, ?_⟩
  refine List.forall_mem_cons.2 ⟨by kernel_rfl, ?_⟩
  refine List.forall_mem_cons.2 ⟨by kernel_rfl, ?_⟩
  refine List.forall_mem_cons.2 ⟨by kernel_rfl, ?_⟩
  refine List.forall_mem_cons.2 ⟨by kernel_rfl, ?_⟩
  refine List.forall_mem_cons.2 ⟨by kernel_rfl, ?_⟩
  refine List.forall_mem_cons.2 ⟨by kernel_rfl, ?_⟩
  refine List.forall_mem_cons.2 ⟨by kernel_rfl, ?_⟩
  refine List.forall_mem_cons.2 ⟨by kernel_rfl, ?_⟩
  refine List.forall_mem_cons.2 ⟨by kernel_rfl, ?_⟩
  refine List.forall_mem_cons.2 ⟨by kernel_rfl, ?_⟩
  refine List.forall_mem_cons.2 ⟨by kernel_rfl, ?_⟩
  refine List.forall_mem_cons.2 ⟨by kernel_rfl, ?_⟩
  refine List.forall_mem_cons.2 ⟨by kernel_rfl, ?_⟩
  refine List.forall_mem_cons.2 ⟨by kernel_rfl, ?_⟩
  refine List.forall_mem_cons.2 ⟨by kernel_rfl, ?_⟩
  refine List.forall_mem_cons.2 ⟨by kernel_rfl, ?_⟩
  refine List.forall_mem_cons.2 ⟨by kernel_rfl, ?_⟩
  refine List.forall_mem_cons.2 ⟨by kernel_rfl, ?_⟩
  refine List.forall_mem_cons.2 ⟨by kernel_rfl, ?_⟩
  refine List.forall_mem_cons.2 ⟨by kernel_rfl, ?_⟩
  refine List.forall_mem_cons.2 ⟨by kernel_rfl, ?_⟩
  refine List.forall_mem_cons.2 ⟨by kernel_rfl, ?_⟩
  refine List.forall_mem_cons.2 ⟨by kernel_rfl, ?_⟩
  refine List.forall_mem_cons.2 ⟨by kernel_rfl, ?_⟩
  refine List.forall_mem_cons.2 ⟨by kernel_rfl, ?_⟩
  refine List.forall_mem_cons.2 ⟨by kernel_rfl, ?_⟩
  refine List.forall_mem_cons.2 ⟨by kernel_rfl, ?_⟩
  refine List.forall_mem_cons.2 ⟨by kernel_rfl, ?_⟩
  refine List.forall_mem_cons.2 ⟨by kernel_rfl, ?_⟩
  refine List.forall_mem_cons.2 ⟨by kernel_rfl, ?_⟩
  refine List.forall_mem_cons.2 ⟨by kernel_rfl, ?_⟩
  refine List.forall_mem_cons.2 ⟨by kernel_rfl, ?_⟩
  refine List.forall_mem_cons.2 ⟨by kernel_rfl, ?_⟩
  refine List.forall_mem_cons.2 ⟨by kernel_rfl, ?_⟩
  refine List.forall_mem_cons.2 ⟨by kernel_rfl, ?_⟩
  refine List.forall_mem_cons.2 ⟨by kernel_rfl, ?_⟩
  refine List.forall_mem_cons.2 ⟨by kernel_rfl, ?_⟩
  refine List.forall_mem_cons.2 ⟨by kernel_rfl, ?_⟩
  refine List.forall_mem_cons.2 ⟨by kernel_rfl, ?_⟩
  refine List.forall_mem_cons.2 ⟨by kernel_rfl, ?_⟩
  refine List.forall_mem_cons.2 ⟨by kernel_rfl, ?_⟩
  refine List.forall_mem_cons.2 ⟨by kernel_rfl, ?_⟩
  refine List.forall_mem_cons.2 ⟨by kernel_rfl, ?_⟩
  refine List.forall_mem_cons.2 ⟨by kernel_rfl, ?_⟩
  refine List.forall_mem_cons.2 ⟨by kernel_rfl, ?_⟩
  refine List.forall_mem_cons.2 ⟨by kernel_rfl, ?_⟩
  refine List.forall_mem_cons.2 ⟨by kernel_rfl, ?_⟩
  refine List.forall_mem_cons.2 ⟨by kernel_rfl, ?_⟩
  refine List.forall_mem_cons.2 ⟨by kernel_rfl, ?_⟩
  refine List.forall_mem_cons.2 ⟨by kernel_rfl, ?_⟩
  refine List.forall_mem_cons.2 ⟨by kernel_rfl, ?_⟩
  refine List.forall_mem_cons.2 ⟨by kernel_rfl, ?_⟩
  refine List.forall_mem_cons.2 ⟨by kernel_rfl, ?_⟩
  refine List.forall_mem_cons.2 ⟨by kernel_rfl, ?_⟩
  refine List.forall_mem_cons.2 ⟨by kernel_rfl, ?_⟩
  refine List.forall_mem_cons.2 ⟨by kernel_rfl, ?_⟩
  refine List.forall_mem_cons.2 ⟨by kernel_rfl, ?_⟩
  refine List.forall_mem_cons.2 ⟨by kernel_rfl, ?_⟩
  refine List.forall_mem_cons.2 ⟨by kernel_rfl, ?_⟩
  refine List.forall_mem_cons.2 ⟨by kernel_rfl, ?_⟩
  refine List.forall_mem_cons.2 ⟨by kernel_rfl, ?_⟩
  refine List.forall_mem_cons.2 ⟨by kernel_rfl, ?_⟩
  refine List.forall_mem_cons.2 ⟨by kernel_rfl, ?_⟩
  refine List.forall_mem_cons.2 ⟨by kernel_rfl, ?_⟩
  refine List.forall_mem_cons.2 ⟨by kernel_rfl, ?_⟩
  refine List.forall_mem_cons.2 ⟨by kernel_rfl, ?_⟩
  refine List.forall_mem_cons.2 ⟨by kernel_rfl, ?_⟩
  refine List.forall_mem_cons.2 ⟨by kernel_rfl, ?_⟩
  refine List.forall_mem_cons.2 ⟨by kernel_rfl, ?_⟩
  refine List.forall_mem_cons.2 ⟨by kernel_rfl, ?_⟩
  refine List.forall_mem_cons.2 ⟨by kernel_rfl, ?_⟩
  refine List.forall_mem_cons.2 ⟨by kernel_rfl, ?_⟩
  refine List.forall_mem_cons.2 ⟨by kernel_rfl, ?_⟩
  refine List.forall_mem_cons.2 ⟨by kernel_rfl, ?_⟩
  refine List.forall_mem_cons.2 ⟨by kernel_rfl, ?_⟩
  refine List.forall_mem_cons.2 ⟨by kernel_rfl, ?_⟩
  refine List.forall_mem_cons.2 ⟨by kernel_rfl, ?_⟩
  refine List.forall_mem_cons.2 ⟨by kernel_rfl, ?_⟩
  refine List.forall_mem_cons.2 ⟨by kernel_rfl, ?_⟩
  refine List.forall_mem_cons.2 ⟨by kernel_rfl, ?_⟩
  refine List.forall_mem_cons.2 ⟨by kernel_rfl, ?_⟩
  refine List.forall_mem_cons.2 ⟨by kernel_rfl, ?_⟩
  refine List.forall_mem_cons.2 ⟨by kernel_rfl, ?_⟩
  refine List.forall_mem_cons.2 ⟨by kernel_rfl, ?_⟩
  refine List.forall_mem_cons.2 ⟨by kernel_rfl, ?_⟩
  refine List.forall_mem_cons.2 ⟨by kernel_rfl, ?_⟩
  refine List.forall_mem_cons.2 ⟨by kernel_rfl, ?_⟩
  refine List.forall_mem_cons.2 ⟨by kernel_rfl, ?_⟩
  refine List.forall_mem_cons.2 ⟨by kernel_rfl, ?_⟩
  refine List.forall_mem_cons.2 ⟨by kernel_rfl, ?_⟩
  refine List.forall_mem_cons.2 ⟨by kernel_rfl, ?_⟩
  refine List.forall_mem_cons.2 ⟨by kernel_rfl, ?_⟩
  refine List.forall_mem_cons.2 ⟨by kernel_rfl, ?_⟩
  refine List.forall_mem_cons.2 ⟨by kernel_rfl, ?_⟩
  refine List.forall_mem_cons.2 ⟨by kernel_rfl, ?_⟩
  refine List.forall_mem_cons.2 ⟨by kernel_rfl, ?_⟩
  exact fun p hp => absurd hp List.not_mem_nil
theorem mem_of_lookup {t : TypeId} {L : Lay} : ∀ {l : List (TypeId × Lay)}, l.lookup t = some L → (t, L) ∈ l
  | [], h => by simp at h
  | (a, b) :: l, h => by
    simp only [List.lookup] at h
    split at h
    · rename_i he
      simp only [beq_iff_eq, Option.some.injEq] at he h
      subst he h
      exact List.mem_cons_self
    · exact List.mem_cons_of_mem _ (mem_of_lookup h)
/-- Places of single bits. -/
def deB : List Int := [0, 1, 56, 2, 57, 49, 28, 3, 61, 58, 42, 50, 38, 29, 17, 4, 62, 47, 59, 36, 45, 43, 51, 22, 53, 39, 33, 30, 24, 18, 12, 5, 63, 55, 48, 27, 60, 41, 37, 16, 46, 35, 44, 21, 52, 32, 23, 11, 54, 26, 40, 15, 34, 20, 31, 10, 25, 14, 19, 9, 13, 8, 7, 6]
/-- What the program has laid. -/
def GL : Glob := [(1, Lib.pow10Tab.map (Value.int .u64)), (8, deB.map (Value.int .u8))]
noncomputable def X : Cx := ⟨Go.Proofs.Tryz.prog, fun t => layT.lookup t, fun t L h => layOf_ok (layT_ok (t, L) (mem_of_lookup h)), GL, by kernel_rfl⟩
theorem lay2 : X.lay 2 = some ⟨.int .i64, 1, 8, [.int .i64 0]⟩ := by kernel_rfl
theorem lay3 : X.lay 3 = some ⟨.int .i64, 1, 8, [.int .i64 0]⟩ := by kernel_rfl
theorem lay4 : X.lay 4 = some ⟨.bool, 1, 1, [.bool false]⟩ := by kernel_rfl
theorem lay5 : X.lay 5 = some ⟨.int .u8, 1, 1, [.int .u8 0]⟩ := by kernel_rfl
theorem lay9 : X.lay 9 = some ⟨.string, 1, 16, [.string ⟨#[]⟩]⟩ := by kernel_rfl
theorem lay22 : X.lay 22 = some ⟨.slice 123, 1, 24, [.slice none 0 0]⟩ := by kernel_rfl
theorem lay23 : X.lay 23 = some ⟨.slice 26, 1, 24, [.slice none 0 0]⟩ := by kernel_rfl
theorem lay24 : X.lay 24 = some ⟨.slice 101, 1, 24, [.slice none 0 0]⟩ := by kernel_rfl
theorem lay25 : X.lay 25 = some ⟨.slice 105, 1, 24, [.slice none 0 0]⟩ := by kernel_rfl
theorem lay26 : X.lay 26 = some ⟨.float .f32, 1, 4, [.float .f32 0]⟩ := by kernel_rfl
theorem lay28 : X.lay 28 = some ⟨.struct [(22, 0), (23, 1), (24, 2), (25, 3), (2, 4), (26, 5), (26, 6)], 7, 112, [.slice none 0 0, .slice none 0 0, .slice none 0 0, .slice none 0 0, .int .i64 0, .float .f32 0, .float .f32 0]⟩ := by kernel_rfl
theorem lay31 : X.lay 31 = some ⟨.slice 61, 1, 24, [.slice none 0 0]⟩ := by kernel_rfl
theorem lay32 : X.lay 32 = some ⟨.slice 75, 1, 24, [.slice none 0 0]⟩ := by kernel_rfl
theorem lay33 : X.lay 33 = some ⟨.slice 65, 1, 24, [.slice none 0 0]⟩ := by kernel_rfl
theorem lay35 : X.lay 35 = some ⟨.struct [(31, 0), (23, 1), (32, 2), (33, 3), (2, 4), (26, 5), (26, 6)], 7, 112, [.slice none 0 0, .slice none 0 0, .slice none 0 0, .slice none 0 0, .int .i64 0, .float .f32 0, .float .f32 0]⟩ := by kernel_rfl
theorem lay57 : X.lay 57 = some ⟨.slice 9, 1, 24, [.slice none 0 0]⟩ := by kernel_rfl
theorem lay58 : X.lay 58 = some ⟨.array 16 26, 16, 64, [.float .f32 0, .float .f32 0, .float .f32 0, .float .f32 0, .float .f32 0, .float .f32 0, .float .f32 0, .float .f32 0, .float .f32 0, .float .f32 0, .float .f32 0, .float .f32 0, .float .f32 0, .float .f32 0, .float .f32 0, .float .f32 0]⟩ := by kernel_rfl
theorem lay59 : X.lay 59 = some ⟨.array 16 26, 16, 64, [.float .f32 0, .float .f32 0, .float .f32 0, .float .f32 0, .float .f32 0, .float .f32 0, .float .f32 0, .float .f32 0, .float .f32 0, .float .f32 0, .float .f32 0, .float .f32 0, .float .f32 0, .float .f32 0, .float .f32 0, .float .f32 0]⟩ := by kernel_rfl
theorem lay61 : X.lay 61 = some ⟨.struct [(59, 0), (26, 16), (26, 17), (26, 18)], 19, 76, [.float .f32 0, .float .f32 0, .float .f32 0, .float .f32 0, .float .f32 0, .float .f32 0, .float .f32 0, .float .f32 0, .float .f32 0, .float .f32 0, .float .f32 0, .float .f32 0, .float .f32 0, .float .f32 0, .float .f32 0, .float .f32 0, .float .f32 0, .float .f32 0, .float .f32 0]⟩ := by kernel_rfl
theorem lay63 : X.lay 63 = some ⟨.slice 142, 1, 24, [.slice none 0 0]⟩ := by kernel_rfl
theorem lay65 : X.lay 65 = some ⟨.struct [(63, 0), (2, 1), (2, 2)], 3, 40, [.slice none 0 0, .int .i64 0, .int .i64 0]⟩ := by kernel_rfl
theorem lay67 : X.lay 67 = some ⟨.array 4 26, 4, 16, [.float .f32 0, .float .f32 0, .float .f32 0, .float .f32 0]⟩ := by kernel_rfl
theorem lay68 : X.lay 68 = some ⟨.array 4 67, 16, 64, [.float .f32 0, .float .f32 0, .float .f32 0, .float .f32 0, .float .f32 0, .float .f32 0, .float .f32 0, .float .f32 0, .float .f32 0, .float .f32 0, .float .f32 0, .float .f32 0, .float .f32 0, .float .f32 0, .float .f32 0, .float .f32 0]⟩ := by kernel_rfl
theorem lay69 : X.lay 69 = some ⟨.array 4 67, 16, 64, [.float .f32 0, .float .f32 0, .float .f32 0, .float .f32 0, .float .f32 0, .float .f32 0, .float .f32 0, .float .f32 0, .float .f32 0, .float .f32 0, .float .f32 0, .float .f32 0, .float .f32 0, .float .f32 0, .float .f32 0, .float .f32 0]⟩ := by kernel_rfl
theorem lay70 : X.lay 70 = some ⟨.array 4 26, 4, 16, [.float .f32 0, .float .f32 0, .float .f32 0, .float .f32 0]⟩ := by kernel_rfl
theorem lay72 : X.lay 72 = some ⟨.struct [(2, 0), (2, 1), (69, 2), (70, 18)], 22, 96, [.int .i64 0, .int .i64 0, .float .f32 0, .float .f32 0, .float .f32 0, .float .f32 0, .float .f32 0, .float .f32 0, .float .f32 0, .float .f32 0, .float .f32 0, .float .f32 0, .float .f32 0, .float .f32 0, .float .f32 0, .float .f32 0, .float .f32 0, .float .f32 0, .float .f32 0, .float .f32 0, .float .f32 0, .float .f32 0]⟩ := by kernel_rfl
theorem lay73 : X.lay 73 = some ⟨.slice 2, 1, 24, [.slice none 0 0]⟩ := by kernel_rfl
theorem lay75 : X.lay 75 = some ⟨.struct [(72, 0), (73, 22), (73, 23), (2, 24)], 25, 152, [.int .i64 0, .int .i64 0, .float .f32 0, .float .f32 0, .float .f32 0, .float .f32 0, .float .f32 0, .float .f32 0, .float .f32 0, .float .f32 0, .float .f32 0, .float .f32 0, .float .f32 0, .float .f32 0, .float .f32 0, .float .f32 0, .float .f32 0, .float .f32 0, .float .f32 0, .float .f32 0, .float .f32 0, .float .f32 0, .slice none 0 0, .slice none 0 0, .int .i64 0]⟩ := by kernel_rfl
theorem lay83 : X.lay 83 = some ⟨.float .f64, 1, 8, [.float .f64 0]⟩ := by kernel_rfl
theorem lay99 : X.lay 99 = some ⟨.struct [(2, 0), (2, 1), (68, 2), (67, 18)], 22, 96, [.int .i64 0, .int .i64 0, .float .f32 0, .float .f32 0, .float .f32 0, .float .f32 0, .float .f32 0, .float .f32 0, .float .f32 0, .float .f32 0, .float .f32 0, .float .f32 0, .float .f32 0, .float .f32 0, .float .f32 0, .float .f32 0, .float .f32 0, .float .f32 0, .float .f32 0, .float .f32 0, .float .f32 0, .float .f32 0]⟩ := by kernel_rfl
theorem lay101 : X.lay 101 = some ⟨.struct [(99, 0), (73, 22), (73, 23), (2, 24)], 25, 152, [.int .i64 0, .int .i64 0, .float .f32 0, .float .f32 0, .float .f32 0, .float .f32 0, .float .f32 0, .float .f32 0, .float .f32 0, .float .f32 0, .float .f32 0, .float .f32 0, .float .f32 0, .float .f32 0, .float .f32 0, .float .f32 0, .float .f32 0, .float .f32 0, .float .f32 0, .float .f32 0, .float .f32 0, .float .f32 0, .slice none 0 0, .slice none 0 0, .int .i64 0]⟩ := by kernel_rfl
theorem lay103 : X.lay 103 = some ⟨.slice 229, 1, 24, [.slice none 0 0]⟩ := by kernel_rfl
theorem lay105 : X.lay 105 = some ⟨.struct [(103, 0), (2, 1), (2, 2)], 3, 40, [.slice none 0 0, .int .i64 0, .int .i64 0]⟩ := by kernel_rfl
theorem lay107 : X.lay 107 = some ⟨.slice 4, 1, 24, [.slice none 0 0]⟩ := by kernel_rfl
theorem lay123 : X.lay 123 = some ⟨.struct [(58, 0), (26, 16), (26, 17), (26, 18)], 19, 76, [.float .f32 0, .float .f32 0, .float .f32 0, .float .f32 0, .float .f32 0, .float .f32 0, .float .f32 0, .float .f32 0, .float .f32 0, .float .f32 0, .float .f32 0, .float .f32 0, .float .f32 0, .float .f32 0, .float .f32 0, .float .f32 0, .float .f32 0, .float .f32 0, .float .f32 0]⟩ := by kernel_rfl
theorem lay134 : X.lay 134 = some ⟨.int .u64, 1, 8, [.int .u64 0]⟩ := by kernel_rfl
theorem lay135 : X.lay 135 = some ⟨.int .u32, 1, 4, [.int .u32 0]⟩ := by kernel_rfl
theorem lay139 : X.lay 139 = some ⟨.array 8 4, 8, 8, [.bool false, .bool false, .bool false, .bool false, .bool false, .bool false, .bool false, .bool false]⟩ := by kernel_rfl
theorem lay140 : X.lay 140 = some ⟨.array 8 4, 8, 8, [.bool false, .bool false, .bool false, .bool false, .bool false, .bool false, .bool false, .bool false]⟩ := by kernel_rfl
theorem lay142 : X.lay 142 = some ⟨.struct [(140, 0), (2, 8)], 9, 16, [.bool false, .bool false, .bool false, .bool false, .bool false, .bool false, .bool false, .bool false, .int .i64 0]⟩ := by kernel_rfl
theorem lay146 : X.lay 146 = some ⟨.slice 5, 1, 24, [.slice none 0 0]⟩ := by kernel_rfl
theorem lay201 : X.lay 201 = some ⟨.int .u64, 1, 8, [.int .u64 0]⟩ := by kernel_rfl
theorem lay229 : X.lay 229 = some ⟨.struct [(139, 0), (2, 8)], 9, 16, [.bool false, .bool false, .bool false, .bool false, .bool false, .bool false, .bool false, .bool false, .int .i64 0]⟩ := by kernel_rfl
theorem lay267 : X.lay 267 = some ⟨.array 65 5, 65, 65, [.int .u8 0, .int .u8 0, .int .u8 0, .int .u8 0, .int .u8 0, .int .u8 0, .int .u8 0, .int .u8 0, .int .u8 0, .int .u8 0, .int .u8 0, .int .u8 0, .int .u8 0, .int .u8 0, .int .u8 0, .int .u8 0, .int .u8 0, .int .u8 0, .int .u8 0, .int .u8 0, .int .u8 0, .int .u8 0, .int .u8 0, .int .u8 0, .int .u8 0, .int .u8 0, .int .u8 0, .int .u8 0, .int .u8 0, .int .u8 0, .int .u8 0, .int .u8 0, .int .u8 0, .int .u8 0, .int .u8 0, .int .u8 0, .int .u8 0, .int .u8 0, .int .u8 0, .int .u8 0, .int .u8 0, .int .u8 0, .int .u8 0, .int .u8 0, .int .u8 0, .int .u8 0, .int .u8 0, .int .u8 0, .int .u8 0, .int .u8 0, .int .u8 0, .int .u8 0, .int .u8 0, .int .u8 0, .int .u8 0, .int .u8 0, .int .u8 0, .int .u8 0, .int .u8 0, .int .u8 0, .int .u8 0, .int .u8 0, .int .u8 0, .int .u8 0, .int .u8 0]⟩ := by kernel_rfl
theorem lay286 : X.lay 286 = some ⟨.array 64 5, 64, 64, [.int .u8 0, .int .u8 0, .int .u8 0, .int .u8 0, .int .u8 0, .int .u8 0, .int .u8 0, .int .u8 0, .int .u8 0, .int .u8 0, .int .u8 0, .int .u8 0, .int .u8 0, .int .u8 0, .int .u8 0, .int .u8 0, .int .u8 0, .int .u8 0, .int .u8 0, .int .u8 0, .int .u8 0, .int .u8 0, .int .u8 0, .int .u8 0, .int .u8 0, .int .u8 0, .int .u8 0, .int .u8 0, .int .u8 0, .int .u8 0, .int .u8 0, .int .u8 0, .int .u8 0, .int .u8 0, .int .u8 0, .int .u8 0, .int .u8 0, .int .u8 0, .int .u8 0, .int .u8 0, .int .u8 0, .int .u8 0, .int .u8 0, .int .u8 0, .int .u8 0, .int .u8 0, .int .u8 0, .int .u8 0, .int .u8 0, .int .u8 0, .int .u8 0, .int .u8 0, .int .u8 0, .int .u8 0, .int .u8 0, .int .u8 0, .int .u8 0, .int .u8 0, .int .u8 0, .int .u8 0, .int .u8 0, .int .u8 0, .int .u8 0, .int .u8 0]⟩ := by kernel_rfl
end Go.VL
namespace Go.VL
open Go.RowKit
set_option maxRecDepth 20000
set_option maxHeartbeats 8000000
theorem cSFs (b : Nat) (hx : okF .f64 (some b)) : PureC X 35 [.c (.f .f64 (some b)), .c (.f .f64 (some b))] (cB (decide True)) := by
  refine PureC.of_body (drawD_ok X) (fun _ _ => Go.Proofs.Tryz.call35 _ _) Go.Proofs.Tryz.func35 rfl (n := 37) rfl ?_
  refine w_seq ?_
  refine w_reg rfl ?_
  refine v_assign (c := .v (.bool false)) rfl ?_
  refine v_nil ?_
  refine q_n ?_
  refine w_seq ?_
  refine w_seq ?_
  refine w_reg rfl ?_
  refine v_move rfl ?_
  refine v_move rfl ?_
  refine v_binb lay83 rfl rfl rfl (fun h1 => ?_) (fun h1 => ?_)
  · exact absurd h1 (by rw [ford_self hx]; decide)
  refine v_move rfl ?_
  refine v_guard_on rfl rfl ?_
  refine v_move rfl ?_
  refine v_guard_on rfl rfl ?_
  refine v_move rfl ?_
  refine v_guard_on rfl rfl ?_
  refine v_binb lay83 rfl rfl rfl (fun h2 => ?_) (fun h2 => ?_)
  · exact absurd h2 (by rw [ford_self hx]; decide)
  refine v_pick_f rfl rfl ?_
  refine v_nil ?_
  refine q_n ?_
  refine w_f rfl ?_
  refine w_skip ?_
  refine q_n ?_
  refine w_seq ?_
  refine w_seq ?_
  refine w_reg rfl ?_
  refine v_move rfl ?_
  refine v_binb lay83 rfl rfl rfl (fun h3 => ?_) (fun h3 => ?_)
  rotate_left
  · refine v_move rfl ?_
    refine v_guard_off rfl rfl rfl ?_
    refine v_guard_off rfl rfl rfl ?_
    refine v_pick_f (v := .v (.bool false)) rfl rfl ?_
    refine v_nil ?_
    refine q_n ?_
    refine w_f rfl ?_
    refine w_skip ?_
    refine q_n ?_
    refine w_seq ?_
    refine w_reg rfl ?_
    refine v_move rfl ?_
    refine v_move rfl ?_
    refine v_binb lay83 rfl rfl rfl (fun h8 => ?_) (fun h8 => ?_)
    rotate_left
    · exact absurd h8 (by rw [ford_self hx]; decide)
    refine v_assign rfl ?_
    refine v_nil ?_
    refine q_n ?_
    refine w_ret ?_
    refine r_r rfl ?_
    exact a_b ⟨fun _ => trivial, fun _ => rfl⟩
  refine v_move rfl ?_
  refine v_guard_on rfl rfl ?_
  refine v_move rfl ?_
  refine v_guard_on rfl rfl ?_
  refine v_binb lay83 rfl rfl rfl (fun h4 => ?_) (fun h4 => ?_)
  rotate_left
  · exact absurd (h3.symm.trans h4) (by decide)
  refine v_pick_t rfl rfl ?_
  refine v_nil ?_
  refine q_n ?_
  refine w_t rfl ?_
  refine w_seq ?_
  refine w_reg rfl ?_
  refine v_move rfl ?_
  refine v_bin (c := .f _ _) lay83 rfl rfl rfl ?_
  refine v_binb lay83 rfl rfl rfl (fun h5 => ?_) (fun h5 => ?_)
  rotate_left
  · refine v_move rfl ?_
    refine v_bin (c := .f _ _) lay83 rfl rfl rfl ?_
    refine v_binb lay83 rfl rfl rfl (fun h7 => ?_) (fun h7 => ?_)
    · exact absurd (h7.symm.trans h5) (by decide)
    refine v_bin (c := .v (.bool true)) lay4 rfl rfl rfl ?_
    refine v_assign rfl ?_
    refine v_nil ?_
    refine q_n ?_
    refine w_ret (q_r ?_)
    refine r_r rfl ?_
    exact a_b ⟨fun _ => trivial, fun _ => rfl⟩
  refine v_move rfl ?_
  refine v_bin (c := .f _ _) lay83 rfl rfl rfl ?_
  refine v_binb lay83 rfl rfl rfl (fun h6 => ?_) (fun h6 => ?_)
  rotate_left
  · exact absurd (h5.symm.trans h6) (by decide)
  refine v_bin (c := .v (.bool true)) lay4 rfl rfl rfl ?_
  refine v_assign rfl ?_
  refine v_nil ?_
  refine q_n ?_
  refine w_ret (q_r ?_)
  refine r_r rfl ?_
  exact a_b ⟨fun _ => trivial, fun _ => rfl⟩
theorem cSFn : PureC X 35 [.c (.f .f64 none), .c (.f .f64 none)] (cB (decide True)) := by
  refine PureC.of_body (drawD_ok X) (fun _ _ => Go.Proofs.Tryz.call35 _ _) Go.Proofs.Tryz.func35 rfl (n := 37) rfl ?_
  refine w_seq ?_
  refine w_reg rfl ?_
  refine v_assign (c := .v (.bool false)) rfl ?_
  refine v_nil ?_
  refine q_n ?_
  refine w_seq ?_
  refine w_seq ?_
  refine w_reg rfl ?_
  refine v_move rfl ?_
  refine v_move rfl ?_
  refine v_binb lay83 rfl rfl rfl (fun h1 => ?_) (fun h1 => ?_)
  rotate_left
  · exact absurd h1 (by decide)
  refine v_move rfl ?_
  refine v_guard_off rfl rfl rfl ?_
  refine v_guard_off rfl rfl rfl ?_
  refine v_guard_off rfl rfl rfl ?_
  refine v_pick_t (v := .v (.bool true)) rfl rfl ?_
  refine v_nil ?_
  refine q_n ?_
  refine w_t rfl ?_
  refine w_seq ?_
  refine w_reg rfl ?_
  refine v_move rfl ?_
  refine v_move rfl ?_
  refine v_binb lay83 rfl rfl rfl (fun h2 => ?_) (fun h2 => ?_)
  rotate_left
  · exact absurd h2 (by decide)
  refine v_move rfl ?_
  refine v_guard_on rfl rfl ?_
  refine v_move rfl ?_
  refine v_guard_on rfl rfl ?_
  refine v_move rfl ?_
  refine v_guard_on rfl rfl ?_
  refine v_binb lay83 rfl rfl rfl (fun h3 => ?_) (fun h3 => ?_)
  rotate_left
  · exact absurd h3 (by decide)
  refine v_pick_t rfl rfl ?_
  refine v_assign rfl ?_
  refine v_nil ?_
  refine q_n ?_
  refine w_ret (q_r ?_)
  refine r_r rfl ?_
  exact a_b ⟨fun _ => trivial, fun _ => rfl⟩
theorem cSF (x : Option Nat) (hx : okF .f64 x) : PureC X 35 [.c (.f .f64 x), .c (.f .f64 x)] (cB (decide True)) := by
  cases x with
  | none => exact cSFn
  | some b => exact cSFs b hx
theorem cFB (b : Nat) : PureC X 116 [.c (.f .f32 (some b))] (.c (.v (.int .u32 b))) := pure_f32bits Go.Proofs.Tryz.func116 (by kernel_rfl) rfl (by kernel_rfl) (by kernel_rfl) b
theorem cToCars (g : Fin 16 → Option Nat) : PureC X 121 [.agg (cac g)] (.agg (cac g)) := by
  refine PureC.of_body (drawD_ok X) (fun _ _ => Go.Proofs.Tryz.call121 _ _) Go.Proofs.Tryz.func121 rfl (n := 15) rfl ?_
  refine w_seq ?_
  refine w_reg rfl ?_
  refine v_box (m := 0) (H' := [_]) lay58 rfl rfl rfl ?_
  refine v_alloc (m := 1) (H' := [_, ⟨[.f _ _, .f _ _, .f _ _, .f _ _, .f _ _, .f _ _, .f _ _, .f _ _, .f _ _, .f _ _, .f _ _, .f _ _, .f _ _, .f _ _, .f _ _, .f _ _], 59, true⟩]) lay59 rfl rfl ?_
  refine v_nil ?_
  refine q_n ?_
  refine w_seq ?_
  refine w_reg rfl ?_
  refine v_alloc (m := 2) (H' := [_, _, ⟨[.f _ _, .f _ _, .f _ _, .f _ _, .f _ _, .f _ _, .f _ _, .f _ _, .f _ _, .f _ _, .f _ _, .f _ _, .f _ _, .f _ _, .f _ _, .f _ _], 59, true⟩]) lay59 rfl rfl ?_
  refine v_nil ?_
  refine q_n ?_
  refine w_seq ?_
  refine w_seq ?_
  refine w_reg rfl ?_
  refine v_assign (c := .v (.int .i64 0)) rfl ?_
  refine v_nil ?_
  refine q_n ?_
  refine w_block ?_
  refine w_loop (fun k sl H => ∃ i : Nat, k = 16 - i ∧ i ≤ 16 ∧ sl = sls [(1, .c (.pt 0 0)), (2, .c (.pt 1 0)), (3, .c (.pt 2 0)), (4, cI i)] ∧ H = [⟨flat fe (l16 g), 58, true⟩, ⟨flat fe (l16 (fun _ => some 0)), 59, true⟩, ⟨flat fe (l16 (mixF i g (fun _ => some 0))), 59, true⟩]) ?_ ?_
  · refine ⟨_, _, _, ?_, 0, rfl, Nat.zero_le _, rfl, rfl⟩
    exact turn [some 0, some 1, some 2] rfl rfl rfl ⟨⟨_, rfl, trc_flat fe_sc rfl⟩, ⟨_, rfl, trc_flat fe_sc rfl⟩, ⟨_, rfl, trc_flat fe_sc (by rw [mixF_0]; rfl)⟩, trivial⟩ ⟨tr_pt rfl, tr_pt rfl, tr_pt rfl, tr_v, trivial⟩
  rintro k sl H ⟨i, rfl, hi, rfl, rfl⟩
  refine w_seq ?_
  refine w_seq ?_
  refine w_reg rfl ?_
  refine v_move rfl ?_
  refine v_lss lay3 rfl rfl (fun h1 => ?_) (fun h1 => ?_)
  rotate_left
  · refine v_nil ?_
    refine q_n ?_
    refine w_f rfl ?_
    refine w_exit ?_
    refine q_e ?_
    refine q_e ?_
    refine q_hit ?_
    refine q_n ?_
    refine w_seq ?_
    refine w_reg rfl ?_
    refine v_load_pt (.agg [_, _, _, _, _, _, _, _, _, _, _, _, _, _, _, _]) lay59 rfl rfl rfl rfl ?_
    refine v_store (H' := [_, ⟨[_, _, _, _, _, _, _, _, _, _, _, _, _, _, _, _], 59, true⟩, _]) lay59 rfl rfl rfl rfl rfl rfl ?_
    refine v_nil ?_
    refine q_n ?_
    refine w_ret ?_
    refine r_r rfl ?_
    obtain rfl : i = 16 := by omega
    exact a_agg (.cons tr_f (.cons tr_f (.cons tr_f (.cons tr_f (.cons tr_f (.cons tr_f (.cons tr_f (.cons tr_f (.cons tr_f (.cons tr_f (.cons tr_f (.cons tr_f (.cons tr_f (.cons tr_f (.cons tr_f (.cons tr_f .nil))))))))))))))))
  have hi1 : i < 16 := by omega
  refine v_nil ?_
  refine q_n ?_
  refine w_t rfl ?_
  refine w_skip ?_
  refine q_n ?_
  refine w_seq ?_
  refine w_block ?_
  refine w_reg rfl ?_
  refine v_move rfl ?_
  refine v_move rfl ?_
  refine v_idx_arr_e (k := 1) (i) lay58 lay26 rfl rfl rfl (rfl) (hi1) ?_
  refine v_load_flat_e (enc := fe) (ys := l16 g) i 0 (.c (.f .f32 (g ⟨i, hi1⟩))) fe_len lay26 rfl rfl (by omega) hi1 (by decide) (f16_ld g hi1 _) ?_
  refine v_idx_arr_e (k := 1) (i) lay59 lay26 rfl rfl rfl (rfl) (hi1) ?_
  refine v_store_flat (H' := [_, _, _]) i 0 (g ⟨i, hi1⟩) fe_len lay26 rfl rfl rfl (by omega) (by rw [l16_len]; exact hi1) rfl rfl (rfl) rfl ?_
  refine v_nil ?_
  refine q_bn ?_
  refine q_n ?_
  refine w_reg rfl ?_
  refine v_move rfl ?_
  refine v_add lay3 rfl rfl (i64r (by omega)) ?_
  refine v_assign rfl ?_
  refine v_nil ?_
  refine q_n ?_
  refine ⟨_, _, _, ?_, ⟨i + 1, rfl, by omega, rfl, rfl⟩, by omega⟩
  exact turn [some 0, some 1, some 2] rfl rfl rfl ⟨⟨_, rfl, trc_flat fe_sc rfl⟩, ⟨_, rfl, trc_flat fe_sc rfl⟩, ⟨_, rfl, trc_flat fe_sc (congrArg (flat fe) ((l16_set _ hi1 _).trans (congrArg l16 (mixF_put _ _ hi1))))⟩, trivial⟩ ⟨tr_pt rfl, tr_pt rfl, tr_pt rfl, tr_v, trivial⟩
theorem cToFour (g : Fin 4 → Option Nat) : PureC X 174 [.agg (foc g)] (.agg (foc g)) := by
  refine PureC.of_body (drawD_ok X) (fun _ _ => Go.Proofs.Tryz.call174 _ _) Go.Proofs.Tryz.func174 rfl (n := 15) rfl ?_
  refine w_seq ?_
  refine w_reg rfl ?_
  refine v_box (m := 0) (H' := [_]) lay67 rfl rfl rfl ?_
  refine v_alloc (m := 1) (H' := [_, ⟨[.f _ _, .f _ _, .f _ _, .f _ _], 70, true⟩]) lay70 rfl rfl ?_
  refine v_nil ?_
  refine q_n ?_
  refine w_seq ?_
  refine w_reg rfl ?_
  refine v_alloc (m := 2) (H' := [_, _, ⟨[.f _ _, .f _ _, .f _ _, .f _ _], 70, true⟩]) lay70 rfl rfl ?_
  refine v_nil ?_
  refine q_n ?_
  refine w_seq ?_
  refine w_seq ?_
  refine w_reg rfl ?_
  refine v_assign (c := .v (.int .i64 0)) rfl ?_
  refine v_nil ?_
  refine q_n ?_
  refine w_block ?_
  refine w_loop (fun k sl H => ∃ i : Nat, k = 4 - i ∧ i ≤ 4 ∧ sl = sls [(1, .c (.pt 0 0)), (2, .c (.pt 1 0)), (3, .c (.pt 2 0)), (4, cI i)] ∧ H = [⟨flat fe (l4 g), 67, true⟩, ⟨flat fe (l4 (fun _ => some 0)), 70, true⟩, ⟨flat fe (l4 (mixF i g (fun _ => some 0))), 70, true⟩]) ?_ ?_
  · refine ⟨_, _, _, ?_, 0, rfl, Nat.zero_le _, rfl, rfl⟩
    exact turn [some 0, some 1, some 2] rfl rfl rfl ⟨⟨_, rfl, trc_flat fe_sc rfl⟩, ⟨_, rfl, trc_flat fe_sc rfl⟩, ⟨_, rfl, trc_flat fe_sc (by rw [mixF_0]; rfl)⟩, trivial⟩ ⟨tr_pt rfl, tr_pt rfl, tr_pt rfl, tr_v, trivial⟩
  rintro k sl H ⟨i, rfl, hi, rfl, rfl⟩
  refine w_seq ?_
  refine w_seq ?_
  refine w_reg rfl ?_
  refine v_move rfl ?_
  refine v_lss lay3 rfl rfl (fun h1 => ?_) (fun h1 => ?_)
  rotate_left
  · refine v_nil ?_
    refine q_n ?_
    refine w_f rfl ?_
    refine w_exit ?_
    refine q_e ?_
    refine q_e ?_
    refine q_hit ?_
    refine q_n ?_
    refine w_seq ?_
    refine w_reg rfl ?_
    refine v_load_pt (.agg [_, _, _, _]) lay70 rfl rfl rfl rfl ?_
    refine v_store (H' := [_, ⟨[_, _, _, _], 70, true⟩, _]) lay70 rfl rfl rfl rfl rfl rfl ?_
    refine v_nil ?_
    refine q_n ?_
    refine w_ret ?_
    refine r_r rfl ?_
    obtain rfl : i = 4 := by omega
    exact a_agg (.cons tr_f (.cons tr_f (.cons tr_f (.cons tr_f .nil))))
  have hi1 : i < 4 := by omega
  refine v_nil ?_
  refine q_n ?_
  refine w_t rfl ?_
  refine w_skip ?_
  refine q_n ?_
  refine w_seq ?_
  refine w_block ?_
  refine w_reg rfl ?_
  refine v_move rfl ?_
  refine v_move rfl ?_
  refine v_idx_arr_e (k := 1) (i) lay67 lay26 rfl rfl rfl (rfl) (hi1) ?_
  refine v_load_flat_e (enc := fe) (ys := l4 g) i 0 (.c (.f .f32 (g ⟨i, hi1⟩))) fe_len lay26 rfl rfl (by omega) hi1 (by decide) (f4_ld g hi1 _) ?_
  refine v_idx_arr_e (k := 1) (i) lay70 lay26 rfl rfl rfl (rfl) (hi1) ?_
  refine v_store_flat (H' := [_, _, _]) i 0 (g ⟨i, hi1⟩) fe_len lay26 rfl rfl rfl (by omega) (by rw [l4_len]; exact hi1) rfl rfl (rfl) rfl ?_
  refine v_nil ?_
  refine q_bn ?_
  refine q_n ?_
  refine w_reg rfl ?_
  refine v_move rfl ?_
  refine v_add lay3 rfl rfl (i64r (by omega)) ?_
  refine v_assign rfl ?_
  refine v_nil ?_
  refine q_n ?_
  refine ⟨_, _, _, ?_, ⟨i + 1, rfl, by omega, rfl, rfl⟩, by omega⟩
  exact turn [some 0, some 1, some 2] rfl rfl rfl ⟨⟨_, rfl, trc_flat fe_sc rfl⟩, ⟨_, rfl, trc_flat fe_sc rfl⟩, ⟨_, rfl, trc_flat fe_sc (congrArg (flat fe) ((l4_set _ hi1 _).trans (congrArg l4 (mixF_put _ _ hi1))))⟩, trivial⟩ ⟨tr_pt rfl, tr_pt rfl, tr_pt rfl, tr_v, trivial⟩
theorem cToA4 (g : Fin 4 → Option Nat) : PureC X 208 [.agg (foc g)] (.agg (foc g)) := by
  refine PureC.of_body (drawD_ok X) (fun _ _ => Go.Proofs.Tryz.call208 _ _) Go.Proofs.Tryz.func208 rfl (n := 15) rfl ?_
  refine w_seq ?_
  refine w_reg rfl ?_
  refine v_box (m := 0) (H' := [_]) lay67 rfl rfl rfl ?_
  refine v_alloc (m := 1) (H' := [_, ⟨[.f _ _, .f _ _, .f _ _, .f _ _], 67, true⟩]) lay67 rfl rfl ?_
  refine v_nil ?_
  refine q_n ?_
  refine w_seq ?_
  refine w_reg rfl ?_
  refine v_alloc (m := 2) (H' := [_, _, ⟨[.f _ _, .f _ _, .f _ _, .f _ _], 67, true⟩]) lay67 rfl rfl ?_
  refine v_nil ?_
  refine q_n ?_
  refine w_seq ?_
  refine w_seq ?_
  refine w_reg rfl ?_
  refine v_assign (c := .v (.int .i64 0)) rfl ?_
  refine v_nil ?_
  refine q_n ?_
  refine w_block ?_
  refine w_loop (fun k sl H => ∃ i : Nat, k = 4 - i ∧ i ≤ 4 ∧ sl = sls [(1, .c (.pt 0 0)), (2, .c (.pt 1 0)), (3, .c (.pt 2 0)), (4, cI i)] ∧ H = [⟨flat fe (l4 g), 67, true⟩, ⟨flat fe (l4 (fun _ => some 0)), 67, true⟩, ⟨flat fe (l4 (mixF i g (fun _ => some 0))), 67, true⟩]) ?_ ?_
  · refine ⟨_, _, _, ?_, 0, rfl, Nat.zero_le _, rfl, rfl⟩
    exact turn [some 0, some 1, some 2] rfl rfl rfl ⟨⟨_, rfl, trc_flat fe_sc rfl⟩, ⟨_, rfl, trc_flat fe_sc rfl⟩, ⟨_, rfl, trc_flat fe_sc (by rw [mixF_0]; rfl)⟩, trivial⟩ ⟨tr_pt rfl, tr_pt rfl, tr_pt rfl, tr_v, trivial⟩
  rintro k sl H ⟨i, rfl, hi, rfl, rfl⟩
  refine w_seq ?_
  refine w_seq ?_
  refine w_reg rfl ?_
  refine v_move rfl ?_
  refine v_lss lay3 rfl rfl (fun h1 => ?_) (fun h1 => ?_)
  rotate_left
  · refine v_nil ?_
    refine q_n ?_
    refine w_f rfl ?_
    refine w_exit ?_
    refine q_e ?_
    refine q_e ?_
    refine q_hit ?_
    refine q_n ?_
    refine w_seq ?_
    refine w_reg rfl ?_
    refine v_load_pt (.agg [_, _, _, _]) lay67 rfl rfl rfl rfl ?_
    refine v_store (H' := [_, ⟨[_, _, _, _], 67, true⟩, _]) lay67 rfl rfl rfl rfl rfl rfl ?_
    refine v_nil ?_
    refine q_n ?_
    refine w_ret ?_
    refine r_r rfl ?_
    obtain rfl : i = 4 := by omega
    exact a_agg (.cons tr_f (.cons tr_f (.cons tr_f (.cons tr_f .nil))))
  have hi1 : i < 4 := by omega
  refine v_nil ?_
  refine q_n ?_
  refine w_t rfl ?_
  refine w_skip ?_
  refine q_n ?_
  refine w_seq ?_
  refine w_block ?_
  refine w_reg rfl ?_
  refine v_move rfl ?_
  refine v_move rfl ?_
  refine v_idx_arr_e (k := 1) (i) lay67 lay26 rfl rfl rfl (rfl) (hi1) ?_
  refine v_load_flat_e (enc := fe) (ys := l4 g) i 0 (.c (.f .f32 (g ⟨i, hi1⟩))) fe_len lay26 rfl rfl (by omega) hi1 (by decide) (f4_ld g hi1 _) ?_
  refine v_idx_arr_e (k := 1) (i) lay67 lay26 rfl rfl rfl (rfl) (hi1) ?_
  refine v_store_flat (H' := [_, _, _]) i 0 (g ⟨i, hi1⟩) fe_len lay26 rfl rfl rfl (by omega) (by rw [l4_len]; exact hi1) rfl rfl (rfl) rfl ?_
  refine v_nil ?_
  refine q_bn ?_
  refine q_n ?_
  refine w_reg rfl ?_
  refine v_move rfl ?_
  refine v_add lay3 rfl rfl (i64r (by omega)) ?_
  refine v_assign rfl ?_
  refine v_nil ?_
  refine q_n ?_
  refine ⟨_, _, _, ?_, ⟨i + 1, rfl, by omega, rfl, rfl⟩, by omega⟩
  exact turn [some 0, some 1, some 2] rfl rfl rfl ⟨⟨_, rfl, trc_flat fe_sc rfl⟩, ⟨_, rfl, trc_flat fe_sc rfl⟩, ⟨_, rfl, trc_flat fe_sc (congrArg (flat fe) ((l4_set _ hi1 _).trans (congrArg l4 (mixF_put _ _ hi1))))⟩, trivial⟩ ⟨tr_pt rfl, tr_pt rfl, tr_pt rfl, tr_v, trivial⟩
theorem cEqCars (g : Fin 16 → Option Nat) (hg : ∀ i (hi : i < 16), okF .f32 (g ⟨i, hi⟩)) : PureC X 148 [.agg (cac g), .agg (cac g)] (cB (decide True)) := by
  refine PureC.of_body (drawD_ok X) (fun _ _ => Go.Proofs.Tryz.call148 _ _) Go.Proofs.Tryz.func148 rfl (n := 20) rfl ?_
  refine w_seq ?_
  refine w_reg rfl ?_
  refine v_box (m := 0) (H' := [_]) lay59 rfl rfl rfl ?_
  refine v_box (m := 1) (H' := [_, _]) lay59 rfl rfl rfl ?_
  refine v_assign (c := .v (.bool false)) rfl ?_
  refine v_nil ?_
  refine q_n ?_
  refine w_seq ?_
  refine w_seq ?_
  refine w_reg rfl ?_
  refine v_assign (c := .v (.int .i64 0)) rfl ?_
  refine v_nil ?_
  refine q_n ?_
  refine w_block ?_
  refine w_loop (fun k sl H => ∃ i : Nat, k = 16 - i ∧ i ≤ 16 ∧ sl = sls [(2, .c (.pt 0 0)), (3, .c (.pt 1 0)), (5, cI i)] ∧ H = [⟨flat fe (l16 g), 59, true⟩, ⟨flat fe (l16 g), 59, true⟩]) ?_ ?_
  · refine ⟨_, _, _, ?_, 0, rfl, Nat.zero_le _, rfl, rfl⟩
    exact turn [some 0, some 1] rfl rfl rfl ⟨⟨_, rfl, trc_flat fe_sc rfl⟩, ⟨_, rfl, trc_flat fe_sc rfl⟩, trivial⟩ ⟨tr_pt rfl, tr_pt rfl, tr_v, trivial⟩
  rintro k sl H ⟨i, rfl, hi, rfl, rfl⟩
  refine w_seq ?_
  refine w_seq ?_
  refine w_reg rfl ?_
  refine v_move rfl ?_
  refine v_lss lay3 rfl rfl (fun h1 => ?_) (fun h1 => ?_)
  rotate_left
  · refine v_nil ?_
    refine q_n ?_
    refine w_f rfl ?_
    refine w_exit ?_
    refine q_e ?_
    refine q_e ?_
    refine q_hit ?_
    refine q_n ?_
    refine w_seq ?_
    refine w_reg rfl ?_
    refine v_assign (c := .v (.bool true)) rfl ?_
    refine v_nil ?_
    refine q_n ?_
    refine w_ret ?_
    refine r_r rfl ?_
    exact a_b ⟨fun _ => trivial, fun _ => rfl⟩
  have hi1 : i < 16 := by omega
  refine v_nil ?_
  refine q_n ?_
  refine w_t rfl ?_
  refine w_skip ?_
  refine q_n ?_
  refine w_seq ?_
  refine w_block ?_
  refine w_seq ?_
  refine w_draw [0, 1, 3, 7, 0, 16, 48, 112, 255, 511] [⟨0, 0, []⟩, ⟨1, 0, []⟩, ⟨2, 0, []⟩, ⟨3, 0, []⟩, ⟨4, 0, []⟩, ⟨5, 0, []⟩, ⟨6, 0, []⟩, ⟨7, 0, []⟩, ⟨8, 0, []⟩, ⟨9, 0, []⟩] rfl rfl ?_
  refine d_q rfl rfl rfl rfl rfl ?_
  refine v_move rfl ?_
  refine v_nil ?_
  refine d_q rfl rfl rfl rfl rfl ?_
  refine v_idx_arr_e (k := 1) (i) lay59 lay26 rfl rfl rfl (rfl) (hi1) ?_
  refine v_nil ?_
  refine d_q rfl rfl rfl rfl rfl ?_
  refine v_load_flat_e (enc := fe) (ys := l16 g) i 0 (.c (.f .f32 (g ⟨i, hi1⟩))) fe_len lay26 rfl rfl (by omega) hi1 (by decide) (f16_ld g hi1 _) ?_
  refine v_nil ?_
  refine d_q rfl rfl rfl rfl rfl ?_
  refine v_conv_ff _ lay26 lay83 rfl (convF_single (hg i hi1)) ?_
  refine v_nil ?_
  refine d_q rfl rfl rfl rfl rfl ?_
  refine v_move rfl ?_
  refine v_nil ?_
  refine d_q rfl rfl rfl rfl rfl ?_
  refine v_idx_arr_e (k := 1) (i) lay59 lay26 rfl rfl rfl (rfl) (hi1) ?_
  refine v_nil ?_
  refine d_q rfl rfl rfl rfl rfl ?_
  refine v_load_flat_e (enc := fe) (ys := l16 g) i 0 (.c (.f .f32 (g ⟨i, hi1⟩))) fe_len lay26 rfl rfl (by omega) hi1 (by decide) (f16_ld g hi1 _) ?_
  refine v_nil ?_
  refine d_q rfl rfl rfl rfl rfl ?_
  refine v_conv_ff _ lay26 lay83 rfl (convF_single (hg i hi1)) ?_
  refine v_nil ?_
  refine d_callb (cSF _ (wide_ok (hg i hi1))) rfl rfl rfl rfl (.cons vw_f (.cons vw_f .nil)) (fun h2 => ?_) (fun h2 => ?_)
  rotate_left
  · exact absurd trivial h2
  refine d_q rfl rfl rfl rfl rfl ?_
  refine v_not false rfl rfl ?_
  refine v_nil ?_
  refine d_nil ?_
  refine q_n ?_
  refine w_f rfl ?_
  refine w_skip ?_
  refine q_bn ?_
  refine q_n ?_
  refine w_reg rfl ?_
  refine v_move rfl ?_
  refine v_add lay3 rfl rfl (i64r (by omega)) ?_
  refine v_assign rfl ?_
  refine v_nil ?_
  refine q_n ?_
  refine ⟨_, _, _, ?_, ⟨i + 1, rfl, by omega, rfl, rfl⟩, by omega⟩
  exact turn [some 0, some 1] rfl rfl rfl ⟨⟨_, rfl, trc_flat fe_sc rfl⟩, ⟨_, rfl, trc_flat fe_sc rfl⟩, trivial⟩ ⟨tr_pt rfl, tr_pt rfl, tr_v, trivial⟩
theorem cEqFour (g : Fin 4 → Option Nat) (hg : ∀ i (hi : i < 4), okF .f32 (g ⟨i, hi⟩)) : PureC X 196 [.agg (foc g), .agg (foc g)] (cB (decide True)) := by
  refine PureC.of_body (drawD_ok X) (fun _ _ => Go.Proofs.Tryz.call196 _ _) Go.Proofs.Tryz.func196 rfl (n := 20) rfl ?_
  refine w_seq ?_
  refine w_reg rfl ?_
  refine v_box (m := 0) (H' := [_]) lay70 rfl rfl rfl ?_
  refine v_box (m := 1) (H' := [_, _]) lay70 rfl rfl rfl ?_
  refine v_assign (c := .v (.bool false)) rfl ?_
  refine v_nil ?_
  refine q_n ?_
  refine w_seq ?_
  refine w_seq ?_
  refine w_reg rfl ?_
  refine v_assign (c := .v (.int .i64 0)) rfl ?_
  refine v_nil ?_
  refine q_n ?_
  refine w_block ?_
  refine w_loop (fun k sl H => ∃ i : Nat, k = 4 - i ∧ i ≤ 4 ∧ sl = sls [(2, .c (.pt 0 0)), (3, .c (.pt 1 0)), (5, cI i)] ∧ H = [⟨flat fe (l4 g), 70, true⟩, ⟨flat fe (l4 g), 70, true⟩]) ?_ ?_
  · refine ⟨_, _, _, ?_, 0, rfl, Nat.zero_le _, rfl, rfl⟩
    exact turn [some 0, some 1] rfl rfl rfl ⟨⟨_, rfl, trc_flat fe_sc rfl⟩, ⟨_, rfl, trc_flat fe_sc rfl⟩, trivial⟩ ⟨tr_pt rfl, tr_pt rfl, tr_v, trivial⟩
  rintro k sl H ⟨i, rfl, hi, rfl, rfl⟩
  refine w_seq ?_
  refine w_seq ?_
  refine w_reg rfl ?_
  refine v_move rfl ?_
  refine v_lss lay3 rfl rfl (fun h1 => ?_) (fun h1 => ?_)
  rotate_left
  · refine v_nil ?_
    refine q_n ?_
    refine w_f rfl ?_
    refine w_exit ?_
    refine q_e ?_
    refine q_e ?_
    refine q_hit ?_
    refine q_n ?_
    refine w_seq ?_
    refine w_reg rfl ?_
    refine v_assign (c := .v (.bool true)) rfl ?_
    refine v_nil ?_
    refine q_n ?_
    refine w_ret ?_
    refine r_r rfl ?_
    exact a_b ⟨fun _ => trivial, fun _ => rfl⟩
  have hi1 : i < 4 := by omega
  refine v_nil ?_
  refine q_n ?_
  refine w_t rfl ?_
  refine w_skip ?_
  refine q_n ?_
  refine w_seq ?_
  refine w_block ?_
  refine w_seq ?_
  refine w_draw [0, 1, 3, 7, 0, 16, 48, 112, 255, 511] [⟨0, 0, []⟩, ⟨1, 0, []⟩, ⟨2, 0, []⟩, ⟨3, 0, []⟩, ⟨4, 0, []⟩, ⟨5, 0, []⟩, ⟨6, 0, []⟩, ⟨7, 0, []⟩, ⟨8, 0, []⟩, ⟨9, 0, []⟩] rfl rfl ?_
  refine d_q rfl rfl rfl rfl rfl ?_
  refine v_move rfl ?_
  refine v_nil ?_
  refine d_q rfl rfl rfl rfl rfl ?_
  refine v_idx_arr_e (k := 1) (i) lay70 lay26 rfl rfl rfl (rfl) (hi1) ?_
  refine v_nil ?_
  refine d_q rfl rfl rfl rfl rfl ?_
  refine v_load_flat_e (enc := fe) (ys := l4 g) i 0 (.c (.f .f32 (g ⟨i, hi1⟩))) fe_len lay26 rfl rfl (by omega) hi1 (by decide) (f4_ld g hi1 _) ?_
  refine v_nil ?_
  refine d_q rfl rfl rfl rfl rfl ?_
  refine v_conv_ff _ lay26 lay83 rfl (convF_single (hg i hi1)) ?_
  refine v_nil ?_
  refine d_q rfl rfl rfl rfl rfl ?_
  refine v_move rfl ?_
  refine v_nil ?_
  refine d_q rfl rfl rfl rfl rfl ?_
  refine v_idx_arr_e (k := 1) (i) lay70 lay26 rfl rfl rfl (rfl) (hi1) ?_
  refine v_nil ?_
  refine d_q rfl rfl rfl rfl rfl ?_
  refine v_load_flat_e (enc := fe) (ys := l4 g) i 0 (.c (.f .f32 (g ⟨i, hi1⟩))) fe_len lay26 rfl rfl (by omega) hi1 (by decide) (f4_ld g hi1 _) ?_
  refine v_nil ?_
  refine d_q rfl rfl rfl rfl rfl ?_
  refine v_conv_ff _ lay26 lay83 rfl (convF_single (hg i hi1)) ?_
  refine v_nil ?_
  refine d_callb (cSF _ (wide_ok (hg i hi1))) rfl rfl rfl rfl (.cons vw_f (.cons vw_f .nil)) (fun h2 => ?_) (fun h2 => ?_)
  rotate_left
  · exact absurd trivial h2
  refine d_q rfl rfl rfl rfl rfl ?_
  refine v_not false rfl rfl ?_
  refine v_nil ?_
  refine d_nil ?_
  refine q_n ?_
  refine w_f rfl ?_
  refine w_skip ?_
  refine q_bn ?_
  refine q_n ?_
  refine w_reg rfl ?_
  refine v_move rfl ?_
  refine v_add lay3 rfl rfl (i64r (by omega)) ?_
  refine v_assign rfl ?_
  refine v_nil ?_
  refine q_n ?_
  refine ⟨_, _, _, ?_, ⟨i + 1, rfl, by omega, rfl, rfl⟩, by omega⟩
  exact turn [some 0, some 1] rfl rfl rfl ⟨⟨_, rfl, trc_flat fe_sc rfl⟩, ⟨_, rfl, trc_flat fe_sc rfl⟩, trivial⟩ ⟨tr_pt rfl, tr_pt rfl, tr_v, trivial⟩
theorem cEqA4 (g : Fin 4 → Option Nat) (hg : ∀ i (hi : i < 4), okF .f32 (g ⟨i, hi⟩)) : PureC X 215 [.agg (foc g), .agg (foc g)] (cB (decide True)) := by
  refine PureC.of_body (drawD_ok X) (fun _ _ => Go.Proofs.Tryz.call215 _ _) Go.Proofs.Tryz.func215 rfl (n := 20) rfl ?_
  refine w_seq ?_
  refine w_reg rfl ?_
  refine v_box (m := 0) (H' := [_]) lay67 rfl rfl rfl ?_
  refine v_box (m := 1) (H' := [_, _]) lay67 rfl rfl rfl ?_
  refine v_assign (c := .v (.bool false)) rfl ?_
  refine v_nil ?_
  refine q_n ?_
  refine w_seq ?_
  refine w_seq ?_
  refine w_reg rfl ?_
  refine v_assign (c := .v (.int .i64 0)) rfl ?_
  refine v_nil ?_
  refine q_n ?_
  refine w_block ?_
  refine w_loop (fun k sl H => ∃ i : Nat, k = 4 - i ∧ i ≤ 4 ∧ sl = sls [(2, .c (.pt 0 0)), (3, .c (.pt 1 0)), (5, cI i)] ∧ H = [⟨flat fe (l4 g), 67, true⟩, ⟨flat fe (l4 g), 67, true⟩]) ?_ ?_
  · refine ⟨_, _, _, ?_, 0, rfl, Nat.zero_le _, rfl, rfl⟩
    exact turn [some 0, some 1] rfl rfl rfl ⟨⟨_, rfl, trc_flat fe_sc rfl⟩, ⟨_, rfl, trc_flat fe_sc rfl⟩, trivial⟩ ⟨tr_pt rfl, tr_pt rfl, tr_v, trivial⟩
  rintro k sl H ⟨i, rfl, hi, rfl, rfl⟩
  refine w_seq ?_
  refine w_seq ?_
  refine w_reg rfl ?_
  refine v_move rfl ?_
  refine v_lss lay3 rfl rfl (fun h1 => ?_) (fun h1 => ?_)
  rotate_left
  · refine v_nil ?_
    refine q_n ?_
    refine w_f rfl ?_
    refine w_exit ?_
    refine q_e ?_
    refine q_e ?_
    refine q_hit ?_
    refine q_n ?_
    refine w_seq ?_
    refine w_reg rfl ?_
    refine v_assign (c := .v (.bool true)) rfl ?_
    refine v_nil ?_
    refine q_n ?_
    refine w_ret ?_
    refine r_r rfl ?_
    exact a_b ⟨fun _ => trivial, fun _ => rfl⟩
  have hi1 : i < 4 := by omega
  refine v_nil ?_
  refine q_n ?_
  refine w_t rfl ?_
  refine w_skip ?_
  refine q_n ?_
  refine w_seq ?_
  refine w_block ?_
  refine w_seq ?_
  refine w_draw [0, 1, 3, 7, 0, 16, 48, 112, 255, 511] [⟨0, 0, []⟩, ⟨1, 0, []⟩, ⟨2, 0, []⟩, ⟨3, 0, []⟩, ⟨4, 0, []⟩, ⟨5, 0, []⟩, ⟨6, 0, []⟩, ⟨7, 0, []⟩, ⟨8, 0, []⟩, ⟨9, 0, []⟩] rfl rfl ?_
  refine d_q rfl rfl rfl rfl rfl ?_
  refine v_move rfl ?_
  refine v_nil ?_
  refine d_q rfl rfl rfl rfl rfl ?_
  refine v_idx_arr_e (k := 1) (i) lay67 lay26 rfl rfl rfl (rfl) (hi1) ?_
  refine v_nil ?_
  refine d_q rfl rfl rfl rfl rfl ?_
  refine v_load_flat_e (enc := fe) (ys := l4 g) i 0 (.c (.f .f32 (g ⟨i, hi1⟩))) fe_len lay26 rfl rfl (by omega) hi1 (by decide) (f4_ld g hi1 _) ?_
  refine v_nil ?_
  refine d_q rfl rfl rfl rfl rfl ?_
  refine v_conv_ff _ lay26 lay83 rfl (convF_single (hg i hi1)) ?_
  refine v_nil ?_
  refine d_q rfl rfl rfl rfl rfl ?_
  refine v_move rfl ?_
  refine v_nil ?_
  refine d_q rfl rfl rfl rfl rfl ?_
  refine v_idx_arr_e (k := 1) (i) lay67 lay26 rfl rfl rfl (rfl) (hi1) ?_
  refine v_nil ?_
  refine d_q rfl rfl rfl rfl rfl ?_
  refine v_load_flat_e (enc := fe) (ys := l4 g) i 0 (.c (.f .f32 (g ⟨i, hi1⟩))) fe_len lay26 rfl rfl (by omega) hi1 (by decide) (f4_ld g hi1 _) ?_
  refine v_nil ?_
  refine d_q rfl rfl rfl rfl rfl ?_
  refine v_conv_ff _ lay26 lay83 rfl (convF_single (hg i hi1)) ?_
  refine v_nil ?_
  refine d_callb (cSF _ (wide_ok (hg i hi1))) rfl rfl rfl rfl (.cons vw_f (.cons vw_f .nil)) (fun h2 => ?_) (fun h2 => ?_)
  rotate_left
  · exact absurd trivial h2
  refine d_q rfl rfl rfl rfl rfl ?_
  refine v_not false rfl rfl ?_
  refine v_nil ?_
  refine d_nil ?_
  refine q_n ?_
  refine w_f rfl ?_
  refine w_skip ?_
  refine q_bn ?_
  refine q_n ?_
  refine w_reg rfl ?_
  refine v_move rfl ?_
  refine v_add lay3 rfl rfl (i64r (by omega)) ?_
  refine v_assign rfl ?_
  refine v_nil ?_
  refine q_n ?_
  refine ⟨_, _, _, ?_, ⟨i + 1, rfl, by omega, rfl, rfl⟩, by omega⟩
  exact turn [some 0, some 1] rfl rfl rfl ⟨⟨_, rfl, trc_flat fe_sc rfl⟩, ⟨_, rfl, trc_flat fe_sc rfl⟩, trivial⟩ ⟨tr_pt rfl, tr_pt rfl, tr_v, trivial⟩
end Go.VL
namespace Go.VL
open Go.RowKit
set_option maxRecDepth 20000
set_option maxHeartbeats 8000000
/-- A single as data. -/
def Sg (x : Option Nat) : Prop := okF .f32 x ∧ ∀ b, x = some b → b < 2 ^ 32
abbrev Rd := Ca × Option Nat × Option Nat × Option Nat
def rdc (r : Rd) : List C := [.f .f32 (r.1 0), .f .f32 (r.1 1), .f .f32 (r.1 2), .f .f32 (r.1 3), .f .f32 (r.1 4), .f .f32 (r.1 5), .f .f32 (r.1 6), .f .f32 (r.1 7), .f .f32 (r.1 8), .f .f32 (r.1 9), .f .f32 (r.1 10), .f .f32 (r.1 11), .f .f32 (r.1 12), .f .f32 (r.1 13), .f .f32 (r.1 14), .f .f32 (r.1 15), .f .f32 r.2.1, .f .f32 r.2.2.1, .f .f32 r.2.2.2]
theorem rdc_len (r : Rd) : (rdc r).length = 19 := rfl
theorem rdc_sc (r : Rd) : (rdc r).all sc = true := rfl
abbrev rds (o : Bool) (xs : List Rd) : C := .sl o xs.length 19 (flat rdc xs)
def zR : Rd := (fun _ => some 0, some 0, some 0, some 0)
def rW (r : Rd) : Prop := (∀ i (hi : i < 16), Sg (r.1 ⟨i, hi⟩)) ∧ Sg r.2.1 ∧ Sg r.2.2.1 ∧ Sg r.2.2.2
abbrev Jn := Int × Int × Fl × Fo
abbrev jnc (j : Jn) : List C := [.v (.int .i64 j.1), .v (.int .i64 j.2.1), .f .f32 (j.2.2.1 0 0), .f .f32 (j.2.2.1 0 1), .f .f32 (j.2.2.1 0 2), .f .f32 (j.2.2.1 0 3), .f .f32 (j.2.2.1 1 0), .f .f32 (j.2.2.1 1 1), .f .f32 (j.2.2.1 1 2), .f .f32 (j.2.2.1 1 3), .f .f32 (j.2.2.1 2 0), .f .f32 (j.2.2.1 2 1), .f .f32 (j.2.2.1 2 2), .f .f32 (j.2.2.1 2 3), .f .f32 (j.2.2.1 3 0), .f .f32 (j.2.2.1 3 1), .f .f32 (j.2.2.1 3 2), .f .f32 (j.2.2.1 3 3), .f .f32 (j.2.2.2 0), .f .f32 (j.2.2.2 1), .f .f32 (j.2.2.2 2), .f .f32 (j.2.2.2 3)]
def jW (j : Jn) : Prop := (∀ i (hi : i < 4) k (hk : k < 4), Sg (j.2.2.1 ⟨i, hi⟩ ⟨k, hk⟩)) ∧ ∀ i (hi : i < 4), Sg (j.2.2.2 ⟨i, hi⟩)
/-- A joint: its junction, its ins, its outs, its plan. -/
abbrev Jo := Jn × List Int × List Int × Int
abbrev jof (o : Bool) (j : Jo) : List C := [.v (.int .i64 j.1.1), .v (.int .i64 j.1.2.1), .f .f32 (j.1.2.2.1 0 0), .f .f32 (j.1.2.2.1 0 1), .f .f32 (j.1.2.2.1 0 2), .f .f32 (j.1.2.2.1 0 3), .f .f32 (j.1.2.2.1 1 0), .f .f32 (j.1.2.2.1 1 1), .f .f32 (j.1.2.2.1 1 2), .f .f32 (j.1.2.2.1 1 3), .f .f32 (j.1.2.2.1 2 0), .f .f32 (j.1.2.2.1 2 1), .f .f32 (j.1.2.2.1 2 2), .f .f32 (j.1.2.2.1 2 3), .f .f32 (j.1.2.2.1 3 0), .f .f32 (j.1.2.2.1 3 1), .f .f32 (j.1.2.2.1 3 2), .f .f32 (j.1.2.2.1 3 3), .f .f32 (j.1.2.2.2 0), .f .f32 (j.1.2.2.2 1), .f .f32 (j.1.2.2.2 2), .f .f32 (j.1.2.2.2 3),
  .sl o j.2.1.length 1 (flat int j.2.1), .sl o j.2.2.1.length 1 (flat int j.2.2.1), .v (.int .i64 j.2.2.2)]
def joc (j : Jo) : List C := jof true j
theorem joc_len (j : Jo) : (joc j).length = 25 := rfl
theorem joc_sc (j : Jo) : (joc j).all fz = true := rfl
abbrev jos (o : Bool) (js : List Jo) : C := .sl o js.length 25 (flat joc js)
/-- A joint, or the room for one. -/
def ozj : Option Jo → List C
  | none => [.v (.int .i64 0), .v (.int .i64 0), .f .f32 (some 0), .f .f32 (some 0), .f .f32 (some 0), .f .f32 (some 0), .f .f32 (some 0), .f .f32 (some 0), .f .f32 (some 0), .f .f32 (some 0), .f .f32 (some 0), .f .f32 (some 0), .f .f32 (some 0), .f .f32 (some 0), .f .f32 (some 0), .f .f32 (some 0), .f .f32 (some 0), .f .f32 (some 0), .f .f32 (some 0), .f .f32 (some 0), .f .f32 (some 0), .f .f32 (some 0), .v (.slice none 0 0), .v (.slice none 0 0), .v (.int .i64 0)]
  | some j => joc j
theorem ozj_len (o : Option Jo) : (ozj o).length = 25 := by cases o <;> rfl
theorem ozj_sc (o : Option Jo) : (ozj o).all fz = true := by cases o <;> rfl
theorem ozj_set (o : Option Jo) (j : Jo) : setCells (ozj o) 0 (joc j) = joc j := by cases o <;> rfl
theorem ozj_flat (js : List Jo) : flat ozj (js.map some) = flat joc js := by simp [flat, List.flatMap_map, ozj]
abbrev Slo := Ph × Int
def stc (s : Slo) : List C := [.v (.bool (s.1 0)), .v (.bool (s.1 1)), .v (.bool (s.1 2)), .v (.bool (s.1 3)), .v (.bool (s.1 4)), .v (.bool (s.1 5)), .v (.bool (s.1 6)), .v (.bool (s.1 7)), .v (.int .i64 s.2)]
theorem stc_len (s : Slo) : (stc s).length = 9 := rfl
theorem stc_sc (s : Slo) : (stc s).all sc = true := rfl
abbrev sts (o : Bool) (xs : List Slo) : C := .sl o xs.length 9 (flat stc xs)
abbrev pln (o : Bool) (xs : List Slo) (b f : Int) : List C := [sts o xs, .v (.int .i64 b), .v (.int .i64 f)]
def zS : Slo := (fun _ => false, 0)
def zg : Ph := fun _ => false
theorem pl_ld (g : Ph) {i : Nat} (h : i < 8) (h' : i < (pl g).length) : mkV false (sub (bo ((pl g)[i]'h')) 0 1) = some (.c (.v (.bool (g ⟨i, h⟩)))) := by
  rw [pl_get g h]
  rfl
abbrev Pln := List Slo × Int × Int
def plc (p : Pln) : List C := [.sl true p.1.length 9 (flat stc p.1), .v (.int .i64 p.2.1), .v (.int .i64 p.2.2)]
theorem plc_len (p : Pln) : (plc p).length = 3 := rfl
theorem plc_sc (p : Pln) : (plc p).all fz = true := rfl
abbrev plf (p : Pln) : List C := pln false p.1 p.2.1 p.2.2
abbrev pls (o : Bool) (ps : List Pln) : C := .sl o ps.length 3 (flat plc ps)
/-- A plan, or the room for one. -/
def ozc : Option Pln → List C
  | none => [.v (.slice none 0 0), .v (.int .i64 0), .v (.int .i64 0)]
  | some p => plc p
theorem ozc_len (o : Option Pln) : (ozc o).length = 3 := by cases o <;> rfl
theorem ozc_sc (o : Option Pln) : (ozc o).all fz = true := by cases o <;> rfl
theorem oz_set (o : Option Pln) {c0 c1 c2 : C} : setCells (ozc o) 0 [c0, c1, c2] = [c0, c1, c2] := by cases o <;> rfl
theorem oz_flat (ps : List Pln) : flat ozc (ps.map some) = flat plc ps := by simp [flat, List.flatMap_map, ozc]
theorem szr_rng {n : Nat} {l : Int} (hl : 0 ≤ l ∧ l ≤ 2 ^ 20) (h : ¬ szr n l < 0) : 0 ≤ szr n l ∧ szr n l ≤ 2 ^ 20 ∧ (n : Int) ≤ l := by
  unfold szr at h ⊢
  split at h
  · omega
  · split <;> omega
/-- What is left behind things of which each has a size. -/
def szG {α : Type} (f : α → Int → Int) : List α → Int → Int
  | [], l => l
  | p :: r, l => if f p l < 0 then -1 else szG f r (f p l)
def szL {α : Type} (f : α → Int → Int) (ps : List α) (l : Int) : Int := if l - ps.length < 0 then -1 else szG f ps (l - ps.length)
theorem szG_at {α : Type} {f : α → Int → Int} {ps : List α} {l : Int} {i : Nat} (h : i < ps.length) : szG f (ps.drop i) l = if f ps[i] l < 0 then -1 else szG f (ps.drop (i + 1)) (f ps[i] l) := by
  rw [List.drop_eq_getElem_cons h, szG]
theorem szG_le {α : Type} {f : α → Int → Int} {W : α → Prop} (hf : ∀ p l, 0 ≤ l ∧ l ≤ 2 ^ 20 → ¬ f p l < 0 → (0 ≤ f p l ∧ f p l ≤ 2 ^ 20) ∧ W p) : ∀ {ps : List α} {l : Int}, 0 ≤ l ∧ l ≤ 2 ^ 20 → ¬ szG f ps l < 0 → (∀ p ∈ ps, W p) ∧ 0 ≤ szG f ps l ∧ szG f ps l ≤ 2 ^ 20
  | [], l, hl, _ => ⟨(fun p hp => by cases hp), hl⟩
  | p :: r, l, hl, h => by
    unfold szG at h ⊢
    split at h
    · exact absurd (show (-1 : Int) < 0 by decide) h
    · rename_i h1
      rw [if_neg h1]
      obtain ⟨h2, h3⟩ := hf p l hl h1
      obtain ⟨k1, k2⟩ := szG_le hf (ps := r) h2 h
      refine ⟨fun q hq => ?_, k2⟩
      rcases List.mem_cons.1 hq with rfl | hq
      · exact h3
      · exact k1 q hq
theorem szL_le {α : Type} {f : α → Int → Int} {W : α → Prop} (hf : ∀ p l, 0 ≤ l ∧ l ≤ 2 ^ 20 → ¬ f p l < 0 → (0 ≤ f p l ∧ f p l ≤ 2 ^ 20) ∧ W p) {ps : List α} {l : Int} (hl : 0 ≤ l ∧ l ≤ 2 ^ 20) (h : ¬ szL f ps l < 0) : ps.length ≤ 2 ^ 20 ∧ (∀ p ∈ ps, W p) ∧ 0 ≤ szL f ps l ∧ szL f ps l ≤ 2 ^ 20 := by
  unfold szL at h ⊢
  split at h
  · exact absurd (show (-1 : Int) < 0 by decide) h
  · rename_i h1
    rw [if_neg h1]
    obtain ⟨k1, k2⟩ := szG_le hf (ps := ps) (l := l - ps.length) ⟨by omega, by omega⟩ h
    exact ⟨by omega, k1, k2⟩
def szJ (j : Jo) (l : Int) : Int := szr j.2.2.1.length (szr j.2.1.length l)
def szP (p : Pln) (l : Int) : Int := szr p.1.length l
theorem szr_neg {n : Nat} {l : Int} (h : l < 0) : szr n l = -1 := by unfold szr; rw [if_pos (by omega)]
theorem szL_neg {α : Type} {f : α → Int → Int} {ps : List α} {l : Int} (h : l < 0) : szL f ps l = -1 := by unfold szL; rw [if_pos (by omega)]
theorem szJ_le (j : Jo) (l : Int) (hl : 0 ≤ l ∧ l ≤ 2 ^ 20) (h : ¬ szJ j l < 0) : (0 ≤ szJ j l ∧ szJ j l ≤ 2 ^ 20) ∧ (j.2.1.length ≤ 2 ^ 20 ∧ j.2.2.1.length ≤ 2 ^ 20) := by
  unfold szJ at h ⊢
  by_cases h1 : szr j.2.1.length l < 0
  · rw [szr_neg h1] at h
    exact absurd (show (-1 : Int) < 0 by decide) h
  · have a := szr_rng hl h1
    have b := szr_rng ⟨a.1, a.2.1⟩ h
    omega
theorem szP_le (p : Pln) (l : Int) (hl : 0 ≤ l ∧ l ≤ 2 ^ 20) (h : ¬ szP p l < 0) : (0 ≤ szP p l ∧ szP p l ≤ 2 ^ 20) ∧ p.1.length ≤ 2 ^ 20 := by
  have a := szr_rng hl h
  unfold szP
  omega
theorem cToFlows (T : Fl) : PureC X 173 [.agg (flc T)] (.agg (flc T)) := by
  refine PureC.of_body (drawD_ok X) (fun _ _ => Go.Proofs.Tryz.call173 _ _) Go.Proofs.Tryz.func173 rfl (n := 16) rfl ?_
  refine w_seq ?_
  refine w_reg rfl ?_
  refine v_box (m := 0) (H' := [_]) lay68 rfl rfl rfl ?_
  refine v_alloc (m := 1) (H' := [_, ⟨[.f _ _, .f _ _, .f _ _, .f _ _, .f _ _, .f _ _, .f _ _, .f _ _, .f _ _, .f _ _, .f _ _, .f _ _, .f _ _, .f _ _, .f _ _, .f _ _], 69, true⟩]) lay69 rfl rfl ?_
  refine v_nil ?_
  refine q_n ?_
  refine w_seq ?_
  refine w_reg rfl ?_
  refine v_alloc (m := 2) (H' := [_, _, ⟨[.f _ _, .f _ _, .f _ _, .f _ _, .f _ _, .f _ _, .f _ _, .f _ _, .f _ _, .f _ _, .f _ _, .f _ _, .f _ _, .f _ _, .f _ _, .f _ _], 69, true⟩]) lay69 rfl rfl ?_
  refine v_nil ?_
  refine q_n ?_
  refine w_seq ?_
  refine w_seq ?_
  refine w_reg rfl ?_
  refine v_assign (c := .v (.int .i64 0)) rfl ?_
  refine v_nil ?_
  refine q_n ?_
  refine w_block ?_
  refine w_loop (fun k sl H => ∃ i : Nat, k = 4 - i ∧ i ≤ 4 ∧ sl = sls [(1, .c (.pt 0 0)), (2, .c (.pt 1 0)), (3, .c (.pt 2 0)), (4, cI i)] ∧ H = [⟨flat foc (l4 T), 68, true⟩, ⟨flat foc (l4 (fun _ => fun _ => some 0 : Fl)), 69, true⟩, ⟨flat foc (l4 (mixF i T (fun _ => fun _ => some 0 : Fl))), 69, true⟩]) ?_ ?_
  · refine ⟨_, _, _, ?_, 0, rfl, Nat.zero_le _, rfl, rfl⟩
    exact turn [some 0, some 1, some 2] rfl rfl rfl ⟨⟨_, rfl, trc_flat foc_sc rfl⟩, ⟨_, rfl, trc_flat foc_sc rfl⟩, ⟨_, rfl, trc_flat foc_sc (by rw [mixF_0]; rfl)⟩, trivial⟩ ⟨tr_pt rfl, tr_pt rfl, tr_pt rfl, tr_v, trivial⟩
  rintro k sl H ⟨i, rfl, hi, rfl, rfl⟩
  refine w_seq ?_
  refine w_seq ?_
  refine w_reg rfl ?_
  refine v_move rfl ?_
  refine v_lss lay3 rfl rfl (fun h1 => ?_) (fun h1 => ?_)
  rotate_left
  · refine v_nil ?_
    refine q_n ?_
    refine w_f rfl ?_
    refine w_exit ?_
    refine q_e ?_
    refine q_e ?_
    refine q_hit ?_
    refine q_n ?_
    refine w_seq ?_
    refine w_reg rfl ?_
    refine v_load_pt (.agg [_, _, _, _, _, _, _, _, _, _, _, _, _, _, _, _]) lay69 rfl rfl rfl rfl ?_
    refine v_store (H' := [_, ⟨[_, _, _, _, _, _, _, _, _, _, _, _, _, _, _, _], 69, true⟩, _]) lay69 rfl rfl rfl rfl rfl rfl ?_
    refine v_nil ?_
    refine q_n ?_
    refine w_ret ?_
    refine r_r rfl ?_
    obtain rfl : i = 4 := by omega
    exact a_agg (.cons tr_f (.cons tr_f (.cons tr_f (.cons tr_f (.cons tr_f (.cons tr_f (.cons tr_f (.cons tr_f (.cons tr_f (.cons tr_f (.cons tr_f (.cons tr_f (.cons tr_f (.cons tr_f (.cons tr_f (.cons tr_f .nil))))))))))))))))
  have hi1 : i < 4 := by omega
  refine v_nil ?_
  refine q_n ?_
  refine w_t rfl ?_
  refine w_skip ?_
  refine q_n ?_
  refine w_seq ?_
  refine w_block ?_
  refine w_reg rfl ?_
  refine v_move rfl ?_
  refine v_move rfl ?_
  refine v_idx_arr_e (k := 4) (i) lay68 lay67 rfl rfl rfl (rfl) (hi1) ?_
  refine v_load_flat_e (enc := foc) (ys := l4 T) i 0 (.agg (foc (T ⟨i, hi1⟩))) foc_len lay67 rfl rfl (by omega) hi1 (by decide) (r4_ld T hi1 _) ?_
  refine v_call (cToA4 _) rfl rfl rfl (.cons (vw_agg (.cons vw_f (.cons vw_f (.cons vw_f (.cons vw_f .nil))))) .nil) ?_
  refine v_idx_arr_e (k := 4) (i) lay69 lay67 rfl rfl rfl (rfl) (hi1) ?_
  refine v_store_flat (H' := [_, _, _]) i 0 (T ⟨i, hi1⟩) foc_len lay67 rfl rfl rfl (by omega) (by rw [l4_len]; exact hi1) rfl rfl (rfl) rfl ?_
  refine v_nil ?_
  refine q_bn ?_
  refine q_n ?_
  refine w_reg rfl ?_
  refine v_move rfl ?_
  refine v_add lay3 rfl rfl (i64r (by omega)) ?_
  refine v_assign rfl ?_
  refine v_nil ?_
  refine q_n ?_
  refine ⟨_, _, _, ?_, ⟨i + 1, rfl, by omega, rfl, rfl⟩, by omega⟩
  exact turn [some 0, some 1, some 2] rfl rfl rfl ⟨⟨_, rfl, trc_flat foc_sc rfl⟩, ⟨_, rfl, trc_flat foc_sc rfl⟩, ⟨_, rfl, trc_flat foc_sc (congrArg (flat foc) ((l4_set _ hi1 _).trans (congrArg l4 (mixF_put _ _ hi1))))⟩, trivial⟩ ⟨tr_pt rfl, tr_pt rfl, tr_pt rfl, tr_v, trivial⟩
theorem cEqFlows (T : Fl) (hT : ∀ i (hi : i < 4) k (hk : k < 4), Sg (T ⟨i, hi⟩ ⟨k, hk⟩)) : PureC X 195 [.agg (flc T), .agg (flc T)] (cB (decide True)) := by
  refine PureC.of_body (drawD_ok X) (fun _ _ => Go.Proofs.Tryz.call195 _ _) Go.Proofs.Tryz.func195 rfl (n := 18) rfl ?_
  refine w_seq ?_
  refine w_reg rfl ?_
  refine v_box (m := 0) (H' := [_]) lay69 rfl rfl rfl ?_
  refine v_box (m := 1) (H' := [_, _]) lay69 rfl rfl rfl ?_
  refine v_assign (c := .v (.bool false)) rfl ?_
  refine v_nil ?_
  refine q_n ?_
  refine w_seq ?_
  refine w_seq ?_
  refine w_reg rfl ?_
  refine v_assign (c := .v (.int .i64 0)) rfl ?_
  refine v_nil ?_
  refine q_n ?_
  refine w_block ?_
  refine w_loop (fun k sl H => ∃ i : Nat, k = 4 - i ∧ i ≤ 4 ∧ sl = sls [(2, .c (.pt 0 0)), (3, .c (.pt 1 0)), (5, cI i)] ∧ H = [⟨flat foc (l4 T), 69, true⟩, ⟨flat foc (l4 T), 69, true⟩]) ?_ ?_
  · refine ⟨_, _, _, ?_, 0, rfl, Nat.zero_le _, rfl, rfl⟩
    exact turn [some 0, some 1] rfl rfl rfl ⟨⟨_, rfl, trc_flat foc_sc rfl⟩, ⟨_, rfl, trc_flat foc_sc rfl⟩, trivial⟩ ⟨tr_pt rfl, tr_pt rfl, tr_v, trivial⟩
  rintro k sl H ⟨i, rfl, hi, rfl, rfl⟩
  refine w_seq ?_
  refine w_seq ?_
  refine w_reg rfl ?_
  refine v_move rfl ?_
  refine v_lss lay3 rfl rfl (fun h1 => ?_) (fun h1 => ?_)
  rotate_left
  · refine v_nil ?_
    refine q_n ?_
    refine w_f rfl ?_
    refine w_exit ?_
    refine q_e ?_
    refine q_e ?_
    refine q_hit ?_
    refine q_n ?_
    refine w_seq ?_
    refine w_reg rfl ?_
    refine v_assign (c := .v (.bool true)) rfl ?_
    refine v_nil ?_
    refine q_n ?_
    refine w_ret ?_
    refine r_r rfl ?_
    exact a_b ⟨fun _ => trivial, fun _ => rfl⟩
  have hi1 : i < 4 := by omega
  refine v_nil ?_
  refine q_n ?_
  refine w_t rfl ?_
  refine w_skip ?_
  refine q_n ?_
  refine w_seq ?_
  refine w_block ?_
  refine w_seq ?_
  refine w_draw [0, 1, 3, 0, 8, 24, 63, 127] [⟨0, 0, []⟩, ⟨1, 0, []⟩, ⟨2, 0, []⟩, ⟨3, 0, []⟩, ⟨4, 0, []⟩, ⟨5, 0, []⟩, ⟨6, 0, []⟩, ⟨7, 0, []⟩] rfl rfl ?_
  refine d_q rfl rfl rfl rfl rfl ?_
  refine v_move rfl ?_
  refine v_nil ?_
  refine d_q rfl rfl rfl rfl rfl ?_
  refine v_idx_arr_e (k := 4) (i) lay69 lay67 rfl rfl rfl (rfl) (hi1) ?_
  refine v_nil ?_
  refine d_q rfl rfl rfl rfl rfl ?_
  refine v_load_flat_e (enc := foc) (ys := l4 T) i 0 (.agg (foc (T ⟨i, hi1⟩))) foc_len lay67 rfl rfl (by omega) hi1 (by decide) (r4_ld T hi1 _) ?_
  refine v_nil ?_
  refine d_q rfl rfl rfl rfl rfl ?_
  refine v_move rfl ?_
  refine v_nil ?_
  refine d_q rfl rfl rfl rfl rfl ?_
  refine v_idx_arr_e (k := 4) (i) lay69 lay67 rfl rfl rfl (rfl) (hi1) ?_
  refine v_nil ?_
  refine d_q rfl rfl rfl rfl rfl ?_
  refine v_load_flat_e (enc := foc) (ys := l4 T) i 0 (.agg (foc (T ⟨i, hi1⟩))) foc_len lay67 rfl rfl (by omega) hi1 (by decide) (r4_ld T hi1 _) ?_
  refine v_nil ?_
  refine d_callb (cEqA4 _ (fun k hk => (hT i hi1 k hk).1)) rfl rfl rfl rfl (.cons (vw_agg (.cons vw_f (.cons vw_f (.cons vw_f (.cons vw_f .nil))))) (.cons (vw_agg (.cons vw_f (.cons vw_f (.cons vw_f (.cons vw_f .nil))))) .nil)) (fun h2 => ?_) (fun h2 => ?_)
  rotate_left
  · exact absurd trivial h2
  refine d_q rfl rfl rfl rfl rfl ?_
  refine v_not false rfl rfl ?_
  refine v_nil ?_
  refine d_nil ?_
  refine q_n ?_
  refine w_f rfl ?_
  refine w_skip ?_
  refine q_bn ?_
  refine q_n ?_
  refine w_reg rfl ?_
  refine v_move rfl ?_
  refine v_add lay3 rfl rfl (i64r (by omega)) ?_
  refine v_assign rfl ?_
  refine v_nil ?_
  refine q_n ?_
  refine ⟨_, _, _, ?_, ⟨i + 1, rfl, by omega, rfl, rfl⟩, by omega⟩
  exact turn [some 0, some 1] rfl rfl rfl ⟨⟨_, rfl, trc_flat foc_sc rfl⟩, ⟨_, rfl, trc_flat foc_sc rfl⟩, trivial⟩ ⟨tr_pt rfl, tr_pt rfl, tr_v, trivial⟩
theorem cToRoad (r : Rd) : PureC X 65 [.agg (rdc r)] (.agg (rdc r)) := by
  refine PureC.of_body (drawD_ok X) (fun _ _ => Go.Proofs.Tryz.call65 _ _) Go.Proofs.Tryz.func65 rfl (n := 18) rfl ?_
  refine w_seq ?_
  refine w_reg rfl ?_
  refine v_box (m := 0) (H' := [_]) lay123 rfl rfl rfl ?_
  refine v_alloc (m := 1) (H' := [_, ⟨[.f _ _, .f _ _, .f _ _, .f _ _, .f _ _, .f _ _, .f _ _, .f _ _, .f _ _, .f _ _, .f _ _, .f _ _, .f _ _, .f _ _, .f _ _, .f _ _, .f _ _, .f _ _, .f _ _], 61, true⟩]) lay61 rfl rfl ?_
  refine v_nil ?_
  refine q_n ?_
  refine w_seq ?_
  refine w_reg rfl ?_
  refine v_alloc (m := 2) (H' := [_, _, ⟨[.f _ _, .f _ _, .f _ _, .f _ _, .f _ _, .f _ _, .f _ _, .f _ _, .f _ _, .f _ _, .f _ _, .f _ _, .f _ _, .f _ _, .f _ _, .f _ _, .f _ _, .f _ _, .f _ _], 61, true⟩]) lay61 rfl rfl ?_
  refine v_nil ?_
  refine q_n ?_
  refine w_seq ?_
  refine w_reg rfl ?_
  refine v_fa_pt (off' := 0) lay123 rfl rfl rfl ?_
  refine v_load_pt (.agg [_, _, _, _, _, _, _, _, _, _, _, _, _, _, _, _]) lay58 rfl rfl rfl rfl ?_
  refine v_call (cToCars _) rfl rfl rfl (.cons (vw_agg (.cons vw_f (.cons vw_f (.cons vw_f (.cons vw_f (.cons vw_f (.cons vw_f (.cons vw_f (.cons vw_f (.cons vw_f (.cons vw_f (.cons vw_f (.cons vw_f (.cons vw_f (.cons vw_f (.cons vw_f (.cons vw_f .nil))))))))))))))))) .nil) ?_
  refine v_fa_pt (off' := 0) lay61 rfl rfl rfl ?_
  refine v_store (H' := [_, _, ⟨[_, _, _, _, _, _, _, _, _, _, _, _, _, _, _, _, _, _, _], 61, true⟩]) lay59 rfl rfl rfl rfl rfl rfl ?_
  refine v_nil ?_
  refine q_n ?_
  refine w_seq ?_
  refine w_reg rfl ?_
  refine v_fa_pt (off' := 16) lay123 rfl rfl rfl ?_
  refine v_load_pt (.c _) lay26 rfl rfl rfl rfl ?_
  refine v_fa_pt (off' := 16) lay61 rfl rfl rfl ?_
  refine v_store (H' := [_, _, ⟨[_, _, _, _, _, _, _, _, _, _, _, _, _, _, _, _, _, _, _], 61, true⟩]) lay26 rfl rfl rfl rfl rfl rfl ?_
  refine v_nil ?_
  refine q_n ?_
  refine w_seq ?_
  refine w_reg rfl ?_
  refine v_fa_pt (off' := 17) lay123 rfl rfl rfl ?_
  refine v_load_pt (.c _) lay26 rfl rfl rfl rfl ?_
  refine v_fa_pt (off' := 17) lay61 rfl rfl rfl ?_
  refine v_store (H' := [_, _, ⟨[_, _, _, _, _, _, _, _, _, _, _, _, _, _, _, _, _, _, _], 61, true⟩]) lay26 rfl rfl rfl rfl rfl rfl ?_
  refine v_nil ?_
  refine q_n ?_
  refine w_seq ?_
  refine w_reg rfl ?_
  refine v_fa_pt (off' := 18) lay123 rfl rfl rfl ?_
  refine v_load_pt (.c _) lay26 rfl rfl rfl rfl ?_
  refine v_fa_pt (off' := 18) lay61 rfl rfl rfl ?_
  refine v_store (H' := [_, _, ⟨[_, _, _, _, _, _, _, _, _, _, _, _, _, _, _, _, _, _, _], 61, true⟩]) lay26 rfl rfl rfl rfl rfl rfl ?_
  refine v_nil ?_
  refine q_n ?_
  refine w_seq ?_
  refine w_reg rfl ?_
  refine v_load_pt (.agg [_, _, _, _, _, _, _, _, _, _, _, _, _, _, _, _, _, _, _]) lay61 rfl rfl rfl rfl ?_
  refine v_store (H' := [_, ⟨[_, _, _, _, _, _, _, _, _, _, _, _, _, _, _, _, _, _, _], 61, true⟩, _]) lay61 rfl rfl rfl rfl rfl rfl ?_
  refine v_nil ?_
  refine q_n ?_
  refine w_ret ?_
  refine r_r rfl ?_
  exact a_agg (.cons tr_f (.cons tr_f (.cons tr_f (.cons tr_f (.cons tr_f (.cons tr_f (.cons tr_f (.cons tr_f (.cons tr_f (.cons tr_f (.cons tr_f (.cons tr_f (.cons tr_f (.cons tr_f (.cons tr_f (.cons tr_f (.cons tr_f (.cons tr_f (.cons tr_f .nil)))))))))))))))))))
theorem cToRoadS (xs : List Rd) (hx : xs.length ≤ 2 ^ 40) : PureC X 20 [.c (.sl false xs.length 19 (flat rdc xs))] (.c (.sl true xs.length 19 (flat rdc xs))) := by
  refine PureC.of_body (drawD_ok X) (fun _ _ => Go.Proofs.Tryz.call20 _ _) Go.Proofs.Tryz.func20 rfl (n := 23) rfl ?_
  refine w_seq ?_
  refine w_reg rfl ?_
  refine v_assign rfl ?_
  refine v_nil ?_
  refine q_n ?_
  refine w_seq ?_
  refine w_reg rfl ?_
  refine v_move rfl ?_
  refine v_len_sl lay22 rfl ?_
  refine v_make (enc := rdc) (a0 := zR) (m := 0) (H' := [_]) rfl lay31 lay61 rfl rfl rfl rfl (xs.length) (rfl) (by unfold maxLen; simp only []; omega) rfl rfl ?_
  refine v_assign rfl ?_
  refine v_nil ?_
  refine q_n ?_
  refine w_seq ?_
  refine w_seq ?_
  refine w_reg rfl ?_
  refine v_assign (c := .v (.int .i64 0)) rfl ?_
  refine v_nil ?_
  refine q_n ?_
  refine w_block ?_
  refine w_loop (fun k sl H => ∃ i : Nat, k = xs.length - i ∧ i ≤ xs.length ∧ sl = sls [(0, .c (.sl false xs.length 19 (flat rdc xs))), (3, .c (.mu 0 0 xs.length 19)), (4, cI i)] ∧ H = [⟨flat rdc (xs.take i ++ List.replicate (xs.length - i) zR), 61, true⟩]) ?_ ?_
  · refine ⟨_, _, _, ?_, 0, rfl, Nat.zero_le _, rfl, rfl⟩
    exact turn [some 0] rfl rfl rfl ⟨⟨_, rfl, .stay (stays_flat rdc_sc _)⟩, trivial⟩ ⟨tr_sl, tr_mu rfl, tr_v, trivial⟩
  rintro k sl H ⟨i, rfl, hi, rfl, rfl⟩
  refine w_seq ?_
  refine w_seq ?_
  refine w_reg rfl ?_
  refine v_move rfl ?_
  refine v_move rfl ?_
  refine v_len_sl lay22 rfl ?_
  refine v_lss lay3 rfl rfl (fun h1 => ?_) (fun h1 => ?_)
  rotate_left
  · refine v_nil ?_
    refine q_n ?_
    refine w_f rfl ?_
    refine w_exit ?_
    refine q_e ?_
    refine q_e ?_
    refine q_hit ?_
    refine q_n ?_
    refine w_seq ?_
    refine w_reg rfl ?_
    refine v_move rfl ?_
    refine v_assign rfl ?_
    refine v_nil ?_
    refine q_n ?_
    refine w_ret ?_
    refine r_r rfl ?_
    obtain rfl : i = xs.length := by omega
    exact a_flat (t := 61) rdc_sc rdc_len (by simp) rfl
  have hi1 : i < xs.length := by omega
  refine v_nil ?_
  refine q_n ?_
  refine w_t rfl ?_
  refine w_skip ?_
  refine q_n ?_
  refine w_seq ?_
  refine w_block ?_
  refine w_reg rfl ?_
  refine v_move rfl ?_
  refine v_move rfl ?_
  refine v_move rfl ?_
  refine v_move rfl ?_
  refine v_idx_e (k := 19) (i) rdc_len lay22 lay123 rfl rfl rfl (rfl) rfl (rfl) ((by omega : i < xs.length)) ?_
  refine v_load_vw (.agg [.f _ _, .f _ _, .f _ _, .f _ _, .f _ _, .f _ _, .f _ _, .f _ _, .f _ _, .f _ _, .f _ _, .f _ _, .f _ _, .f _ _, .f _ _, .f _ _, .f _ _, .f _ _, .f _ _]) lay123 rfl rfl rfl ?_
  refine v_call (cToRoad _) rfl rfl rfl (.cons (vw_agg (.cons vw_f (.cons vw_f (.cons vw_f (.cons vw_f (.cons vw_f (.cons vw_f (.cons vw_f (.cons vw_f (.cons vw_f (.cons vw_f (.cons vw_f (.cons vw_f (.cons vw_f (.cons vw_f (.cons vw_f (.cons vw_f (.cons vw_f (.cons vw_f (.cons vw_f .nil)))))))))))))))))))) .nil) ?_
  refine v_idx_mu_e (k := 19) (off := 0) (i) lay31 lay61 rfl rfl rfl (rfl) ((by omega : i < xs.length)) ?_
  refine v_store_flat (H' := [_]) i 0 (xs[i]) rdc_len lay61 rfl rfl rfl (by omega) (by simp; omega) rfl rfl (rfl) rfl ?_
  refine v_nil ?_
  refine q_bn ?_
  refine q_n ?_
  refine w_reg rfl ?_
  refine v_move rfl ?_
  refine v_add lay3 rfl rfl (i64r (by omega)) ?_
  refine v_assign rfl ?_
  refine v_nil ?_
  refine q_n ?_
  refine ⟨_, _, _, ?_, ⟨i + 1, rfl, by omega, rfl, rfl⟩, by omega⟩
  exact turn [some 0] rfl rfl rfl ⟨⟨_, rfl, by rw [fill_step hi1]; exact .stay (stays_flat rdc_sc _)⟩, trivial⟩ ⟨tr_sl, tr_mu rfl, tr_v, trivial⟩
theorem cToFloatS (xs : List (Option Nat)) (hx : xs.length ≤ 2 ^ 40) : PureC X 21 [.c (.sl false xs.length 1 (flat fe xs))] (.c (.sl true xs.length 1 (flat fe xs))) := by
  refine PureC.of_body (drawD_ok X) (fun _ _ => Go.Proofs.Tryz.call21 _ _) Go.Proofs.Tryz.func21 rfl (n := 22) rfl ?_
  refine w_seq ?_
  refine w_reg rfl ?_
  refine v_assign rfl ?_
  refine v_nil ?_
  refine q_n ?_
  refine w_seq ?_
  refine w_reg rfl ?_
  refine v_move rfl ?_
  refine v_len_sl lay23 rfl ?_
  refine v_make (enc := fe) (a0 := (some 0)) (m := 0) (H' := [_]) rfl lay23 lay26 rfl rfl rfl rfl (xs.length) (rfl) (by unfold maxLen; simp only []; omega) rfl rfl ?_
  refine v_assign rfl ?_
  refine v_nil ?_
  refine q_n ?_
  refine w_seq ?_
  refine w_seq ?_
  refine w_reg rfl ?_
  refine v_assign (c := .v (.int .i64 0)) rfl ?_
  refine v_nil ?_
  refine q_n ?_
  refine w_block ?_
  refine w_loop (fun k sl H => ∃ i : Nat, k = xs.length - i ∧ i ≤ xs.length ∧ sl = sls [(0, .c (.sl false xs.length 1 (flat fe xs))), (3, .c (.mu 0 0 xs.length 1)), (4, cI i)] ∧ H = [⟨flat fe (xs.take i ++ List.replicate (xs.length - i) (some 0)), 26, true⟩]) ?_ ?_
  · refine ⟨_, _, _, ?_, 0, rfl, Nat.zero_le _, rfl, rfl⟩
    exact turn [some 0] rfl rfl rfl ⟨⟨_, rfl, .stay (stays_flat fe_sc _)⟩, trivial⟩ ⟨tr_sl, tr_mu rfl, tr_v, trivial⟩
  rintro k sl H ⟨i, rfl, hi, rfl, rfl⟩
  refine w_seq ?_
  refine w_seq ?_
  refine w_reg rfl ?_
  refine v_move rfl ?_
  refine v_move rfl ?_
  refine v_len_sl lay23 rfl ?_
  refine v_lss lay3 rfl rfl (fun h1 => ?_) (fun h1 => ?_)
  rotate_left
  · refine v_nil ?_
    refine q_n ?_
    refine w_f rfl ?_
    refine w_exit ?_
    refine q_e ?_
    refine q_e ?_
    refine q_hit ?_
    refine q_n ?_
    refine w_seq ?_
    refine w_reg rfl ?_
    refine v_move rfl ?_
    refine v_assign rfl ?_
    refine v_nil ?_
    refine q_n ?_
    refine w_ret ?_
    refine r_r rfl ?_
    obtain rfl : i = xs.length := by omega
    exact a_flat (t := 26) fe_sc fe_len (by simp) rfl
  have hi1 : i < xs.length := by omega
  refine v_nil ?_
  refine q_n ?_
  refine w_t rfl ?_
  refine w_skip ?_
  refine q_n ?_
  refine w_seq ?_
  refine w_block ?_
  refine w_reg rfl ?_
  refine v_move rfl ?_
  refine v_move rfl ?_
  refine v_move rfl ?_
  refine v_move rfl ?_
  refine v_idx_e (k := 1) (i) fe_len lay23 lay26 rfl rfl rfl (rfl) rfl (rfl) ((by omega : i < xs.length)) ?_
  refine v_load_vw (.c (.f _ _)) lay26 rfl rfl rfl ?_
  refine v_idx_mu_e (k := 1) (off := 0) (i) lay23 lay26 rfl rfl rfl (rfl) ((by omega : i < xs.length)) ?_
  refine v_store_flat (H' := [_]) i 0 (xs[i]) fe_len lay26 rfl rfl rfl (by omega) (by simp; omega) rfl rfl (rfl) rfl ?_
  refine v_nil ?_
  refine q_bn ?_
  refine q_n ?_
  refine w_reg rfl ?_
  refine v_move rfl ?_
  refine v_add lay3 rfl rfl (i64r (by omega)) ?_
  refine v_assign rfl ?_
  refine v_nil ?_
  refine q_n ?_
  refine ⟨_, _, _, ?_, ⟨i + 1, rfl, by omega, rfl, rfl⟩, by omega⟩
  exact turn [some 0] rfl rfl rfl ⟨⟨_, rfl, by rw [fill_step hi1]; exact .stay (stays_flat fe_sc _)⟩, trivial⟩ ⟨tr_sl, tr_mu rfl, tr_v, trivial⟩
theorem cEqRoad (r : Rd) (hW : rW r) : PureC X 89 [.agg (rdc r), .agg (rdc r)] (cB (decide True)) := by
  refine PureC.of_body (drawD_ok X) (fun _ _ => Go.Proofs.Tryz.call89 _ _) Go.Proofs.Tryz.func89 rfl (n := 35) rfl ?_
  refine w_seq ?_
  refine w_reg rfl ?_
  refine v_box (m := 0) (H' := [_]) lay61 rfl rfl rfl ?_
  refine v_box (m := 1) (H' := [_, _]) lay61 rfl rfl rfl ?_
  refine v_assign (c := .v (.bool false)) rfl ?_
  refine v_nil ?_
  refine q_n ?_
  refine w_seq ?_
  refine w_seq ?_
  refine w_reg rfl ?_
  refine v_fa_pt (off' := 0) lay61 rfl rfl rfl ?_
  refine v_load_pt (.agg [_, _, _, _, _, _, _, _, _, _, _, _, _, _, _, _]) lay59 rfl rfl rfl rfl ?_
  refine v_fa_pt (off' := 0) lay61 rfl rfl rfl ?_
  refine v_load_pt (.agg [_, _, _, _, _, _, _, _, _, _, _, _, _, _, _, _]) lay59 rfl rfl rfl rfl ?_
  refine v_callb (cEqCars _ (fun i hi => (hW.1 i hi).1)) rfl rfl (.cons (vw_agg (.cons vw_f (.cons vw_f (.cons vw_f (.cons vw_f (.cons vw_f (.cons vw_f (.cons vw_f (.cons vw_f (.cons vw_f (.cons vw_f (.cons vw_f (.cons vw_f (.cons vw_f (.cons vw_f (.cons vw_f (.cons vw_f .nil))))))))))))))))) (.cons (vw_agg (.cons vw_f (.cons vw_f (.cons vw_f (.cons vw_f (.cons vw_f (.cons vw_f (.cons vw_f (.cons vw_f (.cons vw_f (.cons vw_f (.cons vw_f (.cons vw_f (.cons vw_f (.cons vw_f (.cons vw_f (.cons vw_f .nil))))))))))))))))) .nil)) (fun h1 => ?_) (fun h1 => ?_)
  rotate_left
  · exact absurd trivial h1
  refine v_not false rfl rfl ?_
  refine v_nil ?_
  refine q_n ?_
  refine w_f rfl ?_
  refine w_skip ?_
  refine q_n ?_
  refine w_seq ?_
  refine w_seq ?_
  refine w_reg rfl ?_
  refine v_fa_pt (off' := 16) lay61 rfl rfl rfl ?_
  refine v_load_pt (.c _) lay26 rfl rfl rfl rfl ?_
  refine v_conv_ff _ lay26 lay83 rfl (convF_single (by first | exact hW.2.1.1 | exact hW.2.2.1.1 | exact hW.2.2.2.1)) ?_
  refine v_fa_pt (off' := 16) lay61 rfl rfl rfl ?_
  refine v_load_pt (.c _) lay26 rfl rfl rfl rfl ?_
  refine v_conv_ff _ lay26 lay83 rfl (convF_single (by first | exact hW.2.1.1 | exact hW.2.2.1.1 | exact hW.2.2.2.1)) ?_
  refine v_callb (cSF _ (wide_ok (by first | exact hW.2.1.1 | exact hW.2.2.1.1 | exact hW.2.2.2.1))) rfl rfl (.cons vw_f (.cons vw_f .nil)) (fun h2 => ?_) (fun h2 => ?_)
  rotate_left
  · exact absurd trivial h2
  refine v_not false rfl rfl ?_
  refine v_nil ?_
  refine q_n ?_
  refine w_f rfl ?_
  refine w_skip ?_
  refine q_n ?_
  refine w_seq ?_
  refine w_seq ?_
  refine w_reg rfl ?_
  refine v_fa_pt (off' := 17) lay61 rfl rfl rfl ?_
  refine v_load_pt (.c _) lay26 rfl rfl rfl rfl ?_
  refine v_conv_ff _ lay26 lay83 rfl (convF_single (by first | exact hW.2.1.1 | exact hW.2.2.1.1 | exact hW.2.2.2.1)) ?_
  refine v_fa_pt (off' := 17) lay61 rfl rfl rfl ?_
  refine v_load_pt (.c _) lay26 rfl rfl rfl rfl ?_
  refine v_conv_ff _ lay26 lay83 rfl (convF_single (by first | exact hW.2.1.1 | exact hW.2.2.1.1 | exact hW.2.2.2.1)) ?_
  refine v_callb (cSF _ (wide_ok (by first | exact hW.2.1.1 | exact hW.2.2.1.1 | exact hW.2.2.2.1))) rfl rfl (.cons vw_f (.cons vw_f .nil)) (fun h3 => ?_) (fun h3 => ?_)
  rotate_left
  · exact absurd trivial h3
  refine v_not false rfl rfl ?_
  refine v_nil ?_
  refine q_n ?_
  refine w_f rfl ?_
  refine w_skip ?_
  refine q_n ?_
  refine w_seq ?_
  refine w_seq ?_
  refine w_reg rfl ?_
  refine v_fa_pt (off' := 18) lay61 rfl rfl rfl ?_
  refine v_load_pt (.c _) lay26 rfl rfl rfl rfl ?_
  refine v_conv_ff _ lay26 lay83 rfl (convF_single (by first | exact hW.2.1.1 | exact hW.2.2.1.1 | exact hW.2.2.2.1)) ?_
  refine v_fa_pt (off' := 18) lay61 rfl rfl rfl ?_
  refine v_load_pt (.c _) lay26 rfl rfl rfl rfl ?_
  refine v_conv_ff _ lay26 lay83 rfl (convF_single (by first | exact hW.2.1.1 | exact hW.2.2.1.1 | exact hW.2.2.2.1)) ?_
  refine v_callb (cSF _ (wide_ok (by first | exact hW.2.1.1 | exact hW.2.2.1.1 | exact hW.2.2.2.1))) rfl rfl (.cons vw_f (.cons vw_f .nil)) (fun h4 => ?_) (fun h4 => ?_)
  rotate_left
  · exact absurd trivial h4
  refine v_not false rfl rfl ?_
  refine v_nil ?_
  refine q_n ?_
  refine w_f rfl ?_
  refine w_skip ?_
  refine q_n ?_
  refine w_seq ?_
  refine w_reg rfl ?_
  refine v_assign (c := .v (.bool true)) rfl ?_
  refine v_nil ?_
  refine q_n ?_
  refine w_ret ?_
  refine r_r rfl ?_
  exact a_b ⟨fun _ => trivial, fun _ => rfl⟩
theorem cEqRoadS (xs : List Rd) (hx : xs.length ≤ 2 ^ 40) (hw : ∀ x ∈ xs, rW x) : PureC X 31 [.c (.sl false xs.length 19 (flat rdc xs)), .c (.sl false xs.length 19 (flat rdc xs))] (cB (decide True)) := by
  refine PureC.of_body (drawD_ok X) (fun _ _ => Go.Proofs.Tryz.call31 _ _) Go.Proofs.Tryz.func31 rfl (n := 27) rfl ?_
  refine w_seq ?_
  refine w_reg rfl ?_
  refine v_assign (c := .v (.bool false)) rfl ?_
  refine v_nil ?_
  refine q_n ?_
  refine w_seq ?_
  refine w_seq ?_
  refine w_reg rfl ?_
  refine v_move rfl ?_
  refine v_len_sl lay31 rfl ?_
  refine v_move rfl ?_
  refine v_len_sl lay31 rfl ?_
  refine v_neq lay3 rfl rfl (fun h1 => ?_) (fun h1 => ?_)
  · exact absurd rfl h1
  refine v_nil ?_
  refine q_n ?_
  refine w_f rfl ?_
  refine w_skip ?_
  refine q_n ?_
  refine w_seq ?_
  refine w_seq ?_
  refine w_reg rfl ?_
  refine v_assign (c := .v (.int .i64 0)) rfl ?_
  refine v_nil ?_
  refine q_n ?_
  refine w_block ?_
  refine w_loop (fun k sl H => ∃ i : Nat, k = xs.length - i ∧ i ≤ xs.length ∧ sl = sls [(0, .c (.sl false xs.length 19 (flat rdc xs))), (1, .c (.sl false xs.length 19 (flat rdc xs))), (5, cI i)] ∧ H = []) ?_ ?_
  · refine ⟨_, _, _, ?_, 0, rfl, Nat.zero_le _, rfl, rfl⟩
    exact turn0 ⟨tr_sl, tr_sl, tr_v, trivial⟩
  rintro k sl H ⟨i, rfl, hi, rfl, rfl⟩
  refine w_seq ?_
  refine w_seq ?_
  refine w_reg rfl ?_
  refine v_move rfl ?_
  refine v_move rfl ?_
  refine v_len_sl lay31 rfl ?_
  refine v_lss lay3 rfl rfl (fun h2 => ?_) (fun h2 => ?_)
  rotate_left
  · refine v_nil ?_
    refine q_n ?_
    refine w_f rfl ?_
    refine w_exit ?_
    refine q_e ?_
    refine q_e ?_
    refine q_hit ?_
    refine q_n ?_
    refine w_seq ?_
    refine w_reg rfl ?_
    refine v_assign (c := .v (.bool true)) rfl ?_
    refine v_nil ?_
    refine q_n ?_
    refine w_ret ?_
    refine r_r rfl ?_
    exact a_b ⟨fun _ => trivial, fun _ => rfl⟩
  have i1 : i < xs.length := by omega
  refine v_nil ?_
  refine q_n ?_
  refine w_t rfl ?_
  refine w_skip ?_
  refine q_n ?_
  refine w_seq ?_
  refine w_block ?_
  refine w_seq ?_
  refine w_draw [0, 0, 3, 7, 0, 0, 48, 112, 255, 511] [⟨0, 0, []⟩, ⟨1, 0, []⟩, ⟨2, 0, []⟩, ⟨3, 0, []⟩, ⟨4, 0, []⟩, ⟨5, 0, []⟩, ⟨6, 0, []⟩, ⟨7, 0, []⟩, ⟨8, 0, []⟩, ⟨9, 0, []⟩] rfl rfl ?_
  refine d_q rfl rfl rfl rfl rfl ?_
  refine v_move rfl ?_
  refine v_nil ?_
  refine d_q rfl rfl rfl rfl rfl ?_
  refine v_move rfl ?_
  refine v_nil ?_
  refine d_q rfl rfl rfl rfl rfl ?_
  refine v_idx_e (k := 19) (i) rdc_len lay31 lay61 rfl rfl rfl (rfl) rfl (rfl) (i1) ?_
  refine v_nil ?_
  refine d_q rfl rfl rfl rfl rfl ?_
  refine v_load_vw (.agg [.f _ _, .f _ _, .f _ _, .f _ _, .f _ _, .f _ _, .f _ _, .f _ _, .f _ _, .f _ _, .f _ _, .f _ _, .f _ _, .f _ _, .f _ _, .f _ _, .f _ _, .f _ _, .f _ _]) lay61 rfl rfl rfl ?_
  refine v_nil ?_
  refine d_q rfl rfl rfl rfl rfl ?_
  refine v_move rfl ?_
  refine v_nil ?_
  refine d_q rfl rfl rfl rfl rfl ?_
  refine v_move rfl ?_
  refine v_nil ?_
  refine d_q rfl rfl rfl rfl rfl ?_
  refine v_idx_e (k := 19) (i) rdc_len lay31 lay61 rfl rfl rfl (rfl) rfl (rfl) (i1) ?_
  refine v_nil ?_
  refine d_q rfl rfl rfl rfl rfl ?_
  refine v_load_vw (.agg [.f _ _, .f _ _, .f _ _, .f _ _, .f _ _, .f _ _, .f _ _, .f _ _, .f _ _, .f _ _, .f _ _, .f _ _, .f _ _, .f _ _, .f _ _, .f _ _, .f _ _, .f _ _, .f _ _]) lay61 rfl rfl rfl ?_
  refine v_nil ?_
  refine d_callb (cEqRoad _ (hw _ (List.getElem_mem i1))) rfl rfl rfl rfl (.cons (vw_agg (.cons vw_f (.cons vw_f (.cons vw_f (.cons vw_f (.cons vw_f (.cons vw_f (.cons vw_f (.cons vw_f (.cons vw_f (.cons vw_f (.cons vw_f (.cons vw_f (.cons vw_f (.cons vw_f (.cons vw_f (.cons vw_f (.cons vw_f (.cons vw_f (.cons vw_f .nil)))))))))))))))))))) (.cons (vw_agg (.cons vw_f (.cons vw_f (.cons vw_f (.cons vw_f (.cons vw_f (.cons vw_f (.cons vw_f (.cons vw_f (.cons vw_f (.cons vw_f (.cons vw_f (.cons vw_f (.cons vw_f (.cons vw_f (.cons vw_f (.cons vw_f (.cons vw_f (.cons vw_f (.cons vw_f .nil)))))))))))))))))))) .nil)) (fun h5 => ?_) (fun h5 => ?_)
  rotate_left
  · exact absurd trivial h5
  refine d_q rfl rfl rfl rfl rfl ?_
  refine v_not false rfl rfl ?_
  refine v_nil ?_
  refine d_nil ?_
  refine q_n ?_
  refine w_f rfl ?_
  refine w_skip ?_
  refine q_bn ?_
  refine q_n ?_
  refine w_reg rfl ?_
  refine v_move rfl ?_
  refine v_add lay3 rfl rfl (i64r (by omega)) ?_
  refine v_assign rfl ?_
  refine v_nil ?_
  refine q_n ?_
  refine ⟨_, _, _, ?_, ⟨i + 1, rfl, by omega, rfl, rfl⟩, by omega⟩
  exact turn0 ⟨tr_sl, tr_sl, tr_v, trivial⟩
theorem cEqFloatS (xs : List (Option Nat)) (hx : xs.length ≤ 2 ^ 40) (hw : ∀ x ∈ xs, Sg x) : PureC X 32 [.c (.sl false xs.length 1 (flat fe xs)), .c (.sl false xs.length 1 (flat fe xs))] (cB (decide True)) := by
  refine PureC.of_body (drawD_ok X) (fun _ _ => Go.Proofs.Tryz.call32 _ _) Go.Proofs.Tryz.func32 rfl (n := 29) rfl ?_
  refine w_seq ?_
  refine w_reg rfl ?_
  refine v_assign (c := .v (.bool false)) rfl ?_
  refine v_nil ?_
  refine q_n ?_
  refine w_seq ?_
  refine w_seq ?_
  refine w_reg rfl ?_
  refine v_move rfl ?_
  refine v_len_sl lay23 rfl ?_
  refine v_move rfl ?_
  refine v_len_sl lay23 rfl ?_
  refine v_neq lay3 rfl rfl (fun h1 => ?_) (fun h1 => ?_)
  · exact absurd rfl h1
  refine v_nil ?_
  refine q_n ?_
  refine w_f rfl ?_
  refine w_skip ?_
  refine q_n ?_
  refine w_seq ?_
  refine w_seq ?_
  refine w_reg rfl ?_
  refine v_assign (c := .v (.int .i64 0)) rfl ?_
  refine v_nil ?_
  refine q_n ?_
  refine w_block ?_
  refine w_loop (fun k sl H => ∃ i : Nat, k = xs.length - i ∧ i ≤ xs.length ∧ sl = sls [(0, .c (.sl false xs.length 1 (flat fe xs))), (1, .c (.sl false xs.length 1 (flat fe xs))), (5, cI i)] ∧ H = []) ?_ ?_
  · refine ⟨_, _, _, ?_, 0, rfl, Nat.zero_le _, rfl, rfl⟩
    exact turn0 ⟨tr_sl, tr_sl, tr_v, trivial⟩
  rintro k sl H ⟨i, rfl, hi, rfl, rfl⟩
  refine w_seq ?_
  refine w_seq ?_
  refine w_reg rfl ?_
  refine v_move rfl ?_
  refine v_move rfl ?_
  refine v_len_sl lay23 rfl ?_
  refine v_lss lay3 rfl rfl (fun h2 => ?_) (fun h2 => ?_)
  rotate_left
  · refine v_nil ?_
    refine q_n ?_
    refine w_f rfl ?_
    refine w_exit ?_
    refine q_e ?_
    refine q_e ?_
    refine q_hit ?_
    refine q_n ?_
    refine w_seq ?_
    refine w_reg rfl ?_
    refine v_assign (c := .v (.bool true)) rfl ?_
    refine v_nil ?_
    refine q_n ?_
    refine w_ret ?_
    refine r_r rfl ?_
    exact a_b ⟨fun _ => trivial, fun _ => rfl⟩
  have i1 : i < xs.length := by omega
  refine v_nil ?_
  refine q_n ?_
  refine w_t rfl ?_
  refine w_skip ?_
  refine q_n ?_
  refine w_seq ?_
  refine w_block ?_
  refine w_seq ?_
  refine w_draw [0, 0, 3, 7, 15, 0, 0, 96, 224, 480, 1023, 2047] [⟨0, 0, []⟩, ⟨1, 0, []⟩, ⟨2, 0, []⟩, ⟨3, 0, []⟩, ⟨4, 0, []⟩, ⟨5, 0, []⟩, ⟨6, 0, []⟩, ⟨7, 0, []⟩, ⟨8, 0, []⟩, ⟨9, 0, []⟩, ⟨10, 0, []⟩, ⟨11, 0, []⟩] rfl rfl ?_
  refine d_q rfl rfl rfl rfl rfl ?_
  refine v_move rfl ?_
  refine v_nil ?_
  refine d_q rfl rfl rfl rfl rfl ?_
  refine v_move rfl ?_
  refine v_nil ?_
  refine d_q rfl rfl rfl rfl rfl ?_
  refine v_idx_e (k := 1) (i) fe_len lay23 lay26 rfl rfl rfl (rfl) rfl (rfl) (i1) ?_
  refine v_nil ?_
  refine d_q rfl rfl rfl rfl rfl ?_
  refine v_load_vw (.c (.f _ _)) lay26 rfl rfl rfl ?_
  refine v_nil ?_
  refine d_q rfl rfl rfl rfl rfl ?_
  refine v_conv_ff _ lay26 lay83 rfl (convF_single (hw _ (List.getElem_mem i1)).1) ?_
  refine v_nil ?_
  refine d_q rfl rfl rfl rfl rfl ?_
  refine v_move rfl ?_
  refine v_nil ?_
  refine d_q rfl rfl rfl rfl rfl ?_
  refine v_move rfl ?_
  refine v_nil ?_
  refine d_q rfl rfl rfl rfl rfl ?_
  refine v_idx_e (k := 1) (i) fe_len lay23 lay26 rfl rfl rfl (rfl) rfl (rfl) (i1) ?_
  refine v_nil ?_
  refine d_q rfl rfl rfl rfl rfl ?_
  refine v_load_vw (.c (.f _ _)) lay26 rfl rfl rfl ?_
  refine v_nil ?_
  refine d_q rfl rfl rfl rfl rfl ?_
  refine v_conv_ff _ lay26 lay83 rfl (convF_single (hw _ (List.getElem_mem i1)).1) ?_
  refine v_nil ?_
  refine d_callb (cSF _ (wide_ok (hw _ (List.getElem_mem i1)).1)) rfl rfl rfl rfl (.cons vw_f (.cons vw_f .nil)) (fun h5 => ?_) (fun h5 => ?_)
  rotate_left
  · exact absurd trivial h5
  refine d_q rfl rfl rfl rfl rfl ?_
  refine v_not false rfl rfl ?_
  refine v_nil ?_
  refine d_nil ?_
  refine q_n ?_
  refine w_f rfl ?_
  refine w_skip ?_
  refine q_bn ?_
  refine q_n ?_
  refine w_reg rfl ?_
  refine v_move rfl ?_
  refine v_add lay3 rfl rfl (i64r (by omega)) ?_
  refine v_assign rfl ?_
  refine v_nil ?_
  refine q_n ?_
  refine ⟨_, _, _, ?_, ⟨i + 1, rfl, by omega, rfl, rfl⟩, by omega⟩
  exact turn0 ⟨tr_sl, tr_sl, tr_v, trivial⟩
theorem cSzRoadS (xs : List Rd) (l : Int) (hl : 0 ≤ l ∧ l ≤ 2 ^ 20) (hx : xs.length ≤ maxLen) : PureC X 14 [.c (.sl false xs.length 19 (flat rdc xs)), cI l] (cI (szr xs.length l)) := by
  refine PureC.of_body (drawD_ok X) (fun _ _ => Go.Proofs.Tryz.call14 _ _) Go.Proofs.Tryz.func14 rfl (n := 12) rfl ?_
  refine w_seq ?_
  refine w_reg rfl ?_
  refine v_assign (c := .v (.int .i64 0)) rfl ?_
  refine v_nil ?_
  refine q_n ?_
  refine w_seq ?_
  refine w_reg rfl ?_
  refine v_move rfl ?_
  refine v_move rfl ?_
  refine v_len_sl lay22 rfl ?_
  refine v_sub lay3 rfl rfl (i64r (by unfold maxLen at hx; omega)) ?_
  refine v_assign rfl ?_
  refine v_nil ?_
  refine q_n ?_
  refine w_seq ?_
  refine w_seq ?_
  refine w_reg rfl ?_
  refine v_move rfl ?_
  refine v_lss lay3 rfl rfl (fun h1 => ?_) (fun h1 => ?_)
  · refine v_nil ?_
    refine q_n ?_
    refine w_t rfl ?_
    refine w_seq ?_
    refine w_reg rfl ?_
    refine v_assign (c := .v (.int .i64 (-1))) rfl ?_
    refine v_nil ?_
    refine q_n ?_
    refine w_ret (q_r ?_)
    refine r_r rfl ?_
    exact a_i (by unfold szr; rw [if_pos h1])
  refine v_nil ?_
  refine q_n ?_
  refine w_f rfl ?_
  refine w_skip ?_
  refine q_n ?_
  refine w_seq ?_
  refine w_reg rfl ?_
  refine v_move rfl ?_
  refine v_assign rfl ?_
  refine v_nil ?_
  refine q_n ?_
  refine w_ret ?_
  refine r_r rfl ?_
  exact a_i (by unfold szr; rw [if_neg h1])
theorem cSzFloatS (xs : List (Option Nat)) (l : Int) (hl : 0 ≤ l ∧ l ≤ 2 ^ 20) (hx : xs.length ≤ maxLen) : PureC X 15 [.c (.sl false xs.length 1 (flat fe xs)), cI l] (cI (szr xs.length l)) := by
  refine PureC.of_body (drawD_ok X) (fun _ _ => Go.Proofs.Tryz.call15 _ _) Go.Proofs.Tryz.func15 rfl (n := 12) rfl ?_
  refine w_seq ?_
  refine w_reg rfl ?_
  refine v_assign (c := .v (.int .i64 0)) rfl ?_
  refine v_nil ?_
  refine q_n ?_
  refine w_seq ?_
  refine w_reg rfl ?_
  refine v_move rfl ?_
  refine v_move rfl ?_
  refine v_len_sl lay23 rfl ?_
  refine v_sub lay3 rfl rfl (i64r (by unfold maxLen at hx; omega)) ?_
  refine v_assign rfl ?_
  refine v_nil ?_
  refine q_n ?_
  refine w_seq ?_
  refine w_seq ?_
  refine w_reg rfl ?_
  refine v_move rfl ?_
  refine v_lss lay3 rfl rfl (fun h1 => ?_) (fun h1 => ?_)
  · refine v_nil ?_
    refine q_n ?_
    refine w_t rfl ?_
    refine w_seq ?_
    refine w_reg rfl ?_
    refine v_assign (c := .v (.int .i64 (-1))) rfl ?_
    refine v_nil ?_
    refine q_n ?_
    refine w_ret (q_r ?_)
    refine r_r rfl ?_
    exact a_i (by unfold szr; rw [if_pos h1])
  refine v_nil ?_
  refine q_n ?_
  refine w_f rfl ?_
  refine w_skip ?_
  refine q_n ?_
  refine w_seq ?_
  refine w_reg rfl ?_
  refine v_move rfl ?_
  refine v_assign rfl ?_
  refine v_nil ?_
  refine q_n ?_
  refine w_ret ?_
  refine r_r rfl ?_
  exact a_i (by unfold szr; rw [if_neg h1])
theorem cSzIntS (xs : List Int) (l : Int) (hl : 0 ≤ l ∧ l ≤ 2 ^ 20) (hx : xs.length ≤ maxLen) : PureC X 110 [.c (.sl false xs.length 1 (flat int xs)), cI l] (cI (szr xs.length l)) := by
  refine PureC.of_body (drawD_ok X) (fun _ _ => Go.Proofs.Tryz.call110 _ _) Go.Proofs.Tryz.func110 rfl (n := 12) rfl ?_
  refine w_seq ?_
  refine w_reg rfl ?_
  refine v_assign (c := .v (.int .i64 0)) rfl ?_
  refine v_nil ?_
  refine q_n ?_
  refine w_seq ?_
  refine w_reg rfl ?_
  refine v_move rfl ?_
  refine v_move rfl ?_
  refine v_len_sl lay73 rfl ?_
  refine v_sub lay3 rfl rfl (i64r (by unfold maxLen at hx; omega)) ?_
  refine v_assign rfl ?_
  refine v_nil ?_
  refine q_n ?_
  refine w_seq ?_
  refine w_seq ?_
  refine w_reg rfl ?_
  refine v_move rfl ?_
  refine v_lss lay3 rfl rfl (fun h1 => ?_) (fun h1 => ?_)
  · refine v_nil ?_
    refine q_n ?_
    refine w_t rfl ?_
    refine w_seq ?_
    refine w_reg rfl ?_
    refine v_assign (c := .v (.int .i64 (-1))) rfl ?_
    refine v_nil ?_
    refine q_n ?_
    refine w_ret (q_r ?_)
    refine r_r rfl ?_
    exact a_i (by unfold szr; rw [if_pos h1])
  refine v_nil ?_
  refine q_n ?_
  refine w_f rfl ?_
  refine w_skip ?_
  refine q_n ?_
  refine w_seq ?_
  refine w_reg rfl ?_
  refine v_move rfl ?_
  refine v_assign rfl ?_
  refine v_nil ?_
  refine q_n ?_
  refine w_ret ?_
  refine r_r rfl ?_
  exact a_i (by unfold szr; rw [if_neg h1])
theorem cSzSlotS (xs : List Slo) (l : Int) (hl : 0 ≤ l ∧ l ≤ 2 ^ 20) (hx : xs.length ≤ maxLen) : PureC X 111 [.c (.sl false xs.length 9 (flat stc xs)), cI l] (cI (szr xs.length l)) := by
  refine PureC.of_body (drawD_ok X) (fun _ _ => Go.Proofs.Tryz.call111 _ _) Go.Proofs.Tryz.func111 rfl (n := 12) rfl ?_
  refine w_seq ?_
  refine w_reg rfl ?_
  refine v_assign (c := .v (.int .i64 0)) rfl ?_
  refine v_nil ?_
  refine q_n ?_
  refine w_seq ?_
  refine w_reg rfl ?_
  refine v_move rfl ?_
  refine v_move rfl ?_
  refine v_len_sl lay103 rfl ?_
  refine v_sub lay3 rfl rfl (i64r (by unfold maxLen at hx; omega)) ?_
  refine v_assign rfl ?_
  refine v_nil ?_
  refine q_n ?_
  refine w_seq ?_
  refine w_seq ?_
  refine w_reg rfl ?_
  refine v_move rfl ?_
  refine v_lss lay3 rfl rfl (fun h1 => ?_) (fun h1 => ?_)
  · refine v_nil ?_
    refine q_n ?_
    refine w_t rfl ?_
    refine w_seq ?_
    refine w_reg rfl ?_
    refine v_assign (c := .v (.int .i64 (-1))) rfl ?_
    refine v_nil ?_
    refine q_n ?_
    refine w_ret (q_r ?_)
    refine r_r rfl ?_
    exact a_i (by unfold szr; rw [if_pos h1])
  refine v_nil ?_
  refine q_n ?_
  refine w_f rfl ?_
  refine w_skip ?_
  refine q_n ?_
  refine w_seq ?_
  refine w_reg rfl ?_
  refine v_move rfl ?_
  refine v_assign rfl ?_
  refine v_nil ?_
  refine q_n ?_
  refine w_ret ?_
  refine r_r rfl ?_
  exact a_i (by unfold szr; rw [if_neg h1])
theorem cToPhase (g : Ph) : PureC X 209 [.agg (phc g)] (.agg (phc g)) := by
  refine PureC.of_body (drawD_ok X) (fun _ _ => Go.Proofs.Tryz.call209 _ _) Go.Proofs.Tryz.func209 rfl (n := 15) rfl ?_
  refine w_seq ?_
  refine w_reg rfl ?_
  refine v_box (m := 0) (H' := [_]) lay139 rfl rfl rfl ?_
  refine v_alloc (m := 1) (H' := [_, ⟨[.v _, .v _, .v _, .v _, .v _, .v _, .v _, .v _], 140, true⟩]) lay140 rfl rfl ?_
  refine v_nil ?_
  refine q_n ?_
  refine w_seq ?_
  refine w_reg rfl ?_
  refine v_alloc (m := 2) (H' := [_, _, ⟨[.v _, .v _, .v _, .v _, .v _, .v _, .v _, .v _], 140, true⟩]) lay140 rfl rfl ?_
  refine v_nil ?_
  refine q_n ?_
  refine w_seq ?_
  refine w_seq ?_
  refine w_reg rfl ?_
  refine v_assign (c := .v (.int .i64 0)) rfl ?_
  refine v_nil ?_
  refine q_n ?_
  refine w_block ?_
  refine w_loop (fun k sl H => ∃ i : Nat, k = 8 - i ∧ i ≤ 8 ∧ sl = sls [(1, .c (.pt 0 0)), (2, .c (.pt 1 0)), (3, .c (.pt 2 0)), (4, cI i)] ∧ H = [⟨flat bo (pl g), 139, true⟩, ⟨flat bo (pl zg), 140, true⟩, ⟨flat bo (pl (mixG i g zg)), 140, true⟩]) ?_ ?_
  · refine ⟨_, _, _, ?_, 0, rfl, Nat.zero_le _, rfl, rfl⟩
    exact turn [some 0, some 1, some 2] rfl rfl rfl ⟨⟨_, rfl, trc_flat bo_sc rfl⟩, ⟨_, rfl, trc_flat bo_sc rfl⟩, ⟨_, rfl, trc_flat bo_sc (by rw [mix_0]; rfl)⟩, trivial⟩ ⟨tr_pt rfl, tr_pt rfl, tr_pt rfl, tr_v, trivial⟩
  rintro k sl H ⟨i, rfl, hi, rfl, rfl⟩
  refine w_seq ?_
  refine w_seq ?_
  refine w_reg rfl ?_
  refine v_move rfl ?_
  refine v_lss lay3 rfl rfl (fun h1 => ?_) (fun h1 => ?_)
  rotate_left
  · refine v_nil ?_
    refine q_n ?_
    refine w_f rfl ?_
    refine w_exit ?_
    refine q_e ?_
    refine q_e ?_
    refine q_hit ?_
    refine q_n ?_
    refine w_seq ?_
    refine w_reg rfl ?_
    refine v_load_pt (.agg [_, _, _, _, _, _, _, _]) lay140 rfl rfl rfl rfl ?_
    refine v_store (H' := [_, ⟨[_, _, _, _, _, _, _, _], 140, true⟩, _]) lay140 rfl rfl rfl rfl rfl rfl ?_
    refine v_nil ?_
    refine q_n ?_
    refine w_ret ?_
    refine r_r rfl ?_
    obtain rfl : i = 8 := by omega
    exact a_agg (.cons tr_v (.cons tr_v (.cons tr_v (.cons tr_v (.cons tr_v (.cons tr_v (.cons tr_v (.cons tr_v .nil))))))))
  have hi1 : i < 8 := by omega
  refine v_nil ?_
  refine q_n ?_
  refine w_t rfl ?_
  refine w_skip ?_
  refine q_n ?_
  refine w_seq ?_
  refine w_block ?_
  refine w_reg rfl ?_
  refine v_move rfl ?_
  refine v_move rfl ?_
  refine v_idx_arr_e (k := 1) (i) lay139 lay4 rfl rfl rfl (rfl) (hi1) ?_
  refine v_load_flat_e (enc := bo) (ys := pl g) i 0 (.c (.v (.bool (g ⟨i, hi1⟩)))) bo_len lay4 rfl rfl (by omega) hi1 (by decide) (pl_ld g hi1 _) ?_
  refine v_idx_arr_e (k := 1) (i) lay140 lay4 rfl rfl rfl (rfl) (hi1) ?_
  refine v_store_flat (H' := [_, _, _]) i 0 (g ⟨i, hi1⟩) bo_len lay4 rfl rfl rfl (by omega) (by rw [pl_len]; exact hi1) rfl rfl (rfl) rfl ?_
  refine v_nil ?_
  refine q_bn ?_
  refine q_n ?_
  refine w_reg rfl ?_
  refine v_move rfl ?_
  refine v_add lay3 rfl rfl (i64r (by omega)) ?_
  refine v_assign rfl ?_
  refine v_nil ?_
  refine q_n ?_
  refine ⟨_, _, _, ?_, ⟨i + 1, rfl, by omega, rfl, rfl⟩, by omega⟩
  exact turn [some 0, some 1, some 2] rfl rfl rfl ⟨⟨_, rfl, trc_flat bo_sc rfl⟩, ⟨_, rfl, trc_flat bo_sc rfl⟩, ⟨_, rfl, trc_flat bo_sc (congrArg (flat bo) ((pl_set _ hi1 _).trans (congrArg pl (mix_put _ _ hi1))))⟩, trivial⟩ ⟨tr_pt rfl, tr_pt rfl, tr_pt rfl, tr_v, trivial⟩
theorem cToSlot (s : Slo) : PureC X 175 [.agg (stc s)] (.agg (stc s)) := by
  refine PureC.of_body (drawD_ok X) (fun _ _ => Go.Proofs.Tryz.call175 _ _) Go.Proofs.Tryz.func175 rfl (n := 12) rfl ?_
  refine w_seq ?_
  refine w_reg rfl ?_
  refine v_box (m := 0) (H' := [_]) lay229 rfl rfl rfl ?_
  refine v_alloc (m := 1) (H' := [_, ⟨[.v _, .v _, .v _, .v _, .v _, .v _, .v _, .v _, .v _], 142, true⟩]) lay142 rfl rfl ?_
  refine v_nil ?_
  refine q_n ?_
  refine w_seq ?_
  refine w_reg rfl ?_
  refine v_alloc (m := 2) (H' := [_, _, ⟨[.v _, .v _, .v _, .v _, .v _, .v _, .v _, .v _, .v _], 142, true⟩]) lay142 rfl rfl ?_
  refine v_nil ?_
  refine q_n ?_
  refine w_seq ?_
  refine w_reg rfl ?_
  refine v_fa_pt (off' := 0) lay229 rfl rfl rfl ?_
  refine v_load_pt (.agg [_, _, _, _, _, _, _, _]) lay139 rfl rfl rfl rfl ?_
  refine v_call (cToPhase _) rfl rfl rfl (.cons (vw_agg (.cons vw_v (.cons vw_v (.cons vw_v (.cons vw_v (.cons vw_v (.cons vw_v (.cons vw_v (.cons vw_v .nil))))))))) .nil) ?_
  refine v_fa_pt (off' := 0) lay142 rfl rfl rfl ?_
  refine v_store (H' := [_, _, ⟨[_, _, _, _, _, _, _, _, _], 142, true⟩]) lay140 rfl rfl rfl rfl rfl rfl ?_
  refine v_nil ?_
  refine q_n ?_
  refine w_seq ?_
  refine w_reg rfl ?_
  refine v_fa_pt (off' := 8) lay229 rfl rfl rfl ?_
  refine v_load_pt (.c _) lay2 rfl rfl rfl rfl ?_
  refine v_fa_pt (off' := 8) lay142 rfl rfl rfl ?_
  refine v_store (H' := [_, _, ⟨[_, _, _, _, _, _, _, _, _], 142, true⟩]) lay2 rfl rfl rfl rfl rfl rfl ?_
  refine v_nil ?_
  refine q_n ?_
  refine w_seq ?_
  refine w_reg rfl ?_
  refine v_load_pt (.agg [_, _, _, _, _, _, _, _, _]) lay142 rfl rfl rfl rfl ?_
  refine v_store (H' := [_, ⟨[_, _, _, _, _, _, _, _, _], 142, true⟩, _]) lay142 rfl rfl rfl rfl rfl rfl ?_
  refine v_nil ?_
  refine q_n ?_
  refine w_ret ?_
  refine r_r rfl ?_
  exact a_agg (.cons tr_v (.cons tr_v (.cons tr_v (.cons tr_v (.cons tr_v (.cons tr_v (.cons tr_v (.cons tr_v (.cons tr_v .nil)))))))))
theorem cToSlotS (xs : List Slo) (hx : xs.length ≤ 2 ^ 40) : PureC X 124 [.c (.sl false xs.length 9 (flat stc xs))] (.c (.sl true xs.length 9 (flat stc xs))) := by
  refine PureC.of_body (drawD_ok X) (fun _ _ => Go.Proofs.Tryz.call124 _ _) Go.Proofs.Tryz.func124 rfl (n := 23) rfl ?_
  refine w_seq ?_
  refine w_reg rfl ?_
  refine v_assign rfl ?_
  refine v_nil ?_
  refine q_n ?_
  refine w_seq ?_
  refine w_reg rfl ?_
  refine v_move rfl ?_
  refine v_len_sl lay103 rfl ?_
  refine v_make (enc := stc) (a0 := zS) (m := 0) (H' := [_]) rfl lay63 lay142 rfl rfl rfl rfl (xs.length) (rfl) (by unfold maxLen; simp only []; omega) rfl rfl ?_
  refine v_assign rfl ?_
  refine v_nil ?_
  refine q_n ?_
  refine w_seq ?_
  refine w_seq ?_
  refine w_reg rfl ?_
  refine v_assign (c := .v (.int .i64 0)) rfl ?_
  refine v_nil ?_
  refine q_n ?_
  refine w_block ?_
  refine w_loop (fun k sl H => ∃ i : Nat, k = xs.length - i ∧ i ≤ xs.length ∧ sl = sls [(0, .c (.sl false xs.length 9 (flat stc xs))), (3, .c (.mu 0 0 xs.length 9)), (4, cI i)] ∧ H = [⟨flat stc (xs.take i ++ List.replicate (xs.length - i) zS), 142, true⟩]) ?_ ?_
  · refine ⟨_, _, _, ?_, 0, rfl, Nat.zero_le _, rfl, rfl⟩
    exact turn [some 0] rfl rfl rfl ⟨⟨_, rfl, .stay (stays_flat stc_sc _)⟩, trivial⟩ ⟨tr_sl, tr_mu rfl, tr_v, trivial⟩
  rintro k sl H ⟨i, rfl, hi, rfl, rfl⟩
  refine w_seq ?_
  refine w_seq ?_
  refine w_reg rfl ?_
  refine v_move rfl ?_
  refine v_move rfl ?_
  refine v_len_sl lay103 rfl ?_
  refine v_lss lay3 rfl rfl (fun h1 => ?_) (fun h1 => ?_)
  rotate_left
  · refine v_nil ?_
    refine q_n ?_
    refine w_f rfl ?_
    refine w_exit ?_
    refine q_e ?_
    refine q_e ?_
    refine q_hit ?_
    refine q_n ?_
    refine w_seq ?_
    refine w_reg rfl ?_
    refine v_move rfl ?_
    refine v_assign rfl ?_
    refine v_nil ?_
    refine q_n ?_
    refine w_ret ?_
    refine r_r rfl ?_
    obtain rfl : i = xs.length := by omega
    exact a_flat (t := 142) stc_sc stc_len (by simp) rfl
  have hi1 : i < xs.length := by omega
  refine v_nil ?_
  refine q_n ?_
  refine w_t rfl ?_
  refine w_skip ?_
  refine q_n ?_
  refine w_seq ?_
  refine w_block ?_
  refine w_reg rfl ?_
  refine v_move rfl ?_
  refine v_move rfl ?_
  refine v_move rfl ?_
  refine v_move rfl ?_
  refine v_idx_e (k := 9) (i) stc_len lay103 lay229 rfl rfl rfl (rfl) rfl (rfl) ((by omega : i < xs.length)) ?_
  refine v_load_vw (.agg [.v _, .v _, .v _, .v _, .v _, .v _, .v _, .v _, .v _]) lay229 rfl rfl rfl ?_
  refine v_call (cToSlot _) rfl rfl rfl (.cons (vw_agg (.cons vw_v (.cons vw_v (.cons vw_v (.cons vw_v (.cons vw_v (.cons vw_v (.cons vw_v (.cons vw_v (.cons vw_v .nil)))))))))) .nil) ?_
  refine v_idx_mu_e (k := 9) (off := 0) (i) lay63 lay142 rfl rfl rfl (rfl) ((by omega : i < xs.length)) ?_
  refine v_store_flat (H' := [_]) i 0 (xs[i]) stc_len lay142 rfl rfl rfl (by omega) (by simp; omega) rfl rfl (rfl) rfl ?_
  refine v_nil ?_
  refine q_bn ?_
  refine q_n ?_
  refine w_reg rfl ?_
  refine v_move rfl ?_
  refine v_add lay3 rfl rfl (i64r (by omega)) ?_
  refine v_assign rfl ?_
  refine v_nil ?_
  refine q_n ?_
  refine ⟨_, _, _, ?_, ⟨i + 1, rfl, by omega, rfl, rfl⟩, by omega⟩
  exact turn [some 0] rfl rfl rfl ⟨⟨_, rfl, by rw [fill_step hi1]; exact .stay (stays_flat stc_sc _)⟩, trivial⟩ ⟨tr_sl, tr_mu rfl, tr_v, trivial⟩
theorem cToPlan (xs : List Slo) (b f : Int) (hx : xs.length ≤ 2 ^ 40) : PureC X 67 [.agg (pln false xs b f)] (.agg (pln true xs b f)) := by
  refine PureC.of_body (drawD_ok X) (fun _ _ => Go.Proofs.Tryz.call67 _ _) Go.Proofs.Tryz.func67 rfl (n := 15) rfl ?_
  refine w_seq ?_
  refine w_reg rfl ?_
  refine v_box (m := 0) (H' := [_]) lay105 rfl rfl rfl ?_
  refine v_alloc (m := 1) (H' := [_, ⟨[.v _, .v _, .v _], 65, true⟩]) lay65 rfl rfl ?_
  refine v_nil ?_
  refine q_n ?_
  refine w_seq ?_
  refine w_reg rfl ?_
  refine v_alloc (m := 2) (H' := [_, _, ⟨[.v _, .v _, .v _], 65, true⟩]) lay65 rfl rfl ?_
  refine v_nil ?_
  refine q_n ?_
  refine w_seq ?_
  refine w_reg rfl ?_
  refine v_fa_pt (off' := 0) lay105 rfl rfl rfl ?_
  refine v_load_pt (.c _) lay103 rfl rfl rfl rfl ?_
  refine v_call (cToSlotS _ (by omega)) rfl rfl rfl (.cons vw_sl .nil) ?_
  refine v_fa_pt (off' := 0) lay65 rfl rfl rfl ?_
  refine v_store (H' := [_, _, ⟨[_, _, _], 65, true⟩]) lay63 rfl rfl rfl rfl rfl rfl ?_
  refine v_nil ?_
  refine q_n ?_
  refine w_seq ?_
  refine w_reg rfl ?_
  refine v_fa_pt (off' := 1) lay105 rfl rfl rfl ?_
  refine v_load_pt (.c _) lay2 rfl rfl rfl rfl ?_
  refine v_fa_pt (off' := 1) lay65 rfl rfl rfl ?_
  refine v_store (H' := [_, _, ⟨[_, _, _], 65, true⟩]) lay2 rfl rfl rfl rfl rfl rfl ?_
  refine v_nil ?_
  refine q_n ?_
  refine w_seq ?_
  refine w_reg rfl ?_
  refine v_fa_pt (off' := 2) lay105 rfl rfl rfl ?_
  refine v_load_pt (.c _) lay2 rfl rfl rfl rfl ?_
  refine v_fa_pt (off' := 2) lay65 rfl rfl rfl ?_
  refine v_store (H' := [_, _, ⟨[_, _, _], 65, true⟩]) lay2 rfl rfl rfl rfl rfl rfl ?_
  refine v_nil ?_
  refine q_n ?_
  refine w_seq ?_
  refine w_reg rfl ?_
  refine v_load_pt (.agg [_, _, _]) lay65 rfl rfl rfl rfl ?_
  refine v_store (H' := [_, ⟨[_, _, _], 65, true⟩, _]) lay65 rfl rfl rfl rfl rfl rfl ?_
  refine v_nil ?_
  refine q_n ?_
  refine w_ret ?_
  refine r_r rfl ?_
  exact a_agg (.cons tr_sl (.cons tr_v (.cons tr_v .nil)))
theorem cSzPlan (xs : List Slo) (b f : Int) (l : Int) (hl : 0 ≤ l ∧ l ≤ 2 ^ 20) (hx : xs.length ≤ maxLen) : PureC X 53 [.agg (pln false xs b f), cI l] (cI (szr xs.length l)) := by
  refine PureC.of_body (drawD_ok X) (fun _ _ => Go.Proofs.Tryz.call53 _ _) Go.Proofs.Tryz.func53 rfl (n := 12) rfl ?_
  refine w_seq ?_
  refine w_reg rfl ?_
  refine v_box (m := 0) (H' := [_]) lay105 rfl rfl rfl ?_
  refine v_assign (c := .v (.int .i64 0)) rfl ?_
  refine v_nil ?_
  refine q_n ?_
  refine w_seq ?_
  refine w_reg rfl ?_
  refine v_fa_pt (off' := 0) lay105 rfl rfl rfl ?_
  refine v_load_pt (.c _) lay103 rfl rfl rfl rfl ?_
  refine v_move rfl ?_
  refine v_call (cSzSlotS _ _ (by omega) (by assumption)) rfl rfl rfl (.cons vw_sl (.cons vw_v .nil)) ?_
  refine v_assign rfl ?_
  refine v_nil ?_
  refine q_n ?_
  refine w_seq ?_
  refine w_seq ?_
  refine w_reg rfl ?_
  refine v_move rfl ?_
  refine v_lss lay3 rfl rfl (fun h1 => ?_) (fun h1 => ?_)
  rotate_left
  · refine v_nil ?_
    refine q_n ?_
    refine w_f rfl ?_
    refine w_skip ?_
    refine q_n ?_
    refine w_seq ?_
    refine w_reg rfl ?_
    refine v_move rfl ?_
    refine v_assign rfl ?_
    refine v_nil ?_
    refine q_n ?_
    refine w_ret ?_
    refine r_r rfl ?_
    exact a_i rfl
  refine v_nil ?_
  refine q_n ?_
  refine w_t rfl ?_
  refine w_seq ?_
  refine w_reg rfl ?_
  refine v_assign (c := .v (.int .i64 (-1))) rfl ?_
  refine v_nil ?_
  refine q_n ?_
  refine w_ret (q_r ?_)
  refine r_r rfl ?_
  exact a_i (by unfold szr at *; split at h1 <;> omega)
theorem cEqPhase (g : Ph) : PureC X 216 [.agg (phc g), .agg (phc g)] (cB (decide True)) := by
  refine PureC.of_body (drawD_ok X) (fun _ _ => Go.Proofs.Tryz.call216 _ _) Go.Proofs.Tryz.func216 rfl (n := 17) rfl ?_
  refine w_seq ?_
  refine w_reg rfl ?_
  refine v_box (m := 0) (H' := [_]) lay140 rfl rfl rfl ?_
  refine v_box (m := 1) (H' := [_, _]) lay140 rfl rfl rfl ?_
  refine v_assign (c := .v (.bool false)) rfl ?_
  refine v_nil ?_
  refine q_n ?_
  refine w_seq ?_
  refine w_seq ?_
  refine w_reg rfl ?_
  refine v_assign (c := .v (.int .i64 0)) rfl ?_
  refine v_nil ?_
  refine q_n ?_
  refine w_block ?_
  refine w_loop (fun k sl H => ∃ i : Nat, k = 8 - i ∧ i ≤ 8 ∧ sl = sls [(2, .c (.pt 0 0)), (3, .c (.pt 1 0)), (5, cI i)] ∧ H = [⟨flat bo (pl g), 140, true⟩, ⟨flat bo (pl g), 140, true⟩]) ?_ ?_
  · refine ⟨_, _, _, ?_, 0, rfl, Nat.zero_le _, rfl, rfl⟩
    exact turn [some 0, some 1] rfl rfl rfl ⟨⟨_, rfl, trc_flat bo_sc rfl⟩, ⟨_, rfl, trc_flat bo_sc rfl⟩, trivial⟩ ⟨tr_pt rfl, tr_pt rfl, tr_v, trivial⟩
  rintro k sl H ⟨i, rfl, hi, rfl, rfl⟩
  refine w_seq ?_
  refine w_seq ?_
  refine w_reg rfl ?_
  refine v_move rfl ?_
  refine v_lss lay3 rfl rfl (fun h1 => ?_) (fun h1 => ?_)
  rotate_left
  · refine v_nil ?_
    refine q_n ?_
    refine w_f rfl ?_
    refine w_exit ?_
    refine q_e ?_
    refine q_e ?_
    refine q_hit ?_
    refine q_n ?_
    refine w_seq ?_
    refine w_reg rfl ?_
    refine v_assign (c := .v (.bool true)) rfl ?_
    refine v_nil ?_
    refine q_n ?_
    refine w_ret ?_
    refine r_r rfl ?_
    exact a_b ⟨fun _ => trivial, fun _ => rfl⟩
  have hi1 : i < 8 := by omega
  refine v_nil ?_
  refine q_n ?_
  refine w_t rfl ?_
  refine w_skip ?_
  refine q_n ?_
  refine w_seq ?_
  refine w_block ?_
  refine w_seq ?_
  refine w_draw [0, 1, 3, 0, 8, 24, 63] [⟨0, 0, []⟩, ⟨1, 0, []⟩, ⟨2, 0, []⟩, ⟨3, 0, []⟩, ⟨4, 0, []⟩, ⟨5, 0, []⟩, ⟨6, 0, []⟩] rfl rfl ?_
  refine d_q rfl rfl rfl rfl rfl ?_
  refine v_move rfl ?_
  refine v_nil ?_
  refine d_q rfl rfl rfl rfl rfl ?_
  refine v_idx_arr_e (k := 1) (i) lay140 lay4 rfl rfl rfl (rfl) (hi1) ?_
  refine v_nil ?_
  refine d_q rfl rfl rfl rfl rfl ?_
  refine v_load_flat_e (enc := bo) (ys := pl g) i 0 (.c (.v (.bool (g ⟨i, hi1⟩)))) bo_len lay4 rfl rfl (by omega) hi1 (by decide) (pl_ld g hi1 _) ?_
  refine v_nil ?_
  refine d_q rfl rfl rfl rfl rfl ?_
  refine v_move rfl ?_
  refine v_nil ?_
  refine d_q rfl rfl rfl rfl rfl ?_
  refine v_idx_arr_e (k := 1) (i) lay140 lay4 rfl rfl rfl (rfl) (hi1) ?_
  refine v_nil ?_
  refine d_q rfl rfl rfl rfl rfl ?_
  refine v_load_flat_e (enc := bo) (ys := pl g) i 0 (.c (.v (.bool (g ⟨i, hi1⟩)))) bo_len lay4 rfl rfl (by omega) hi1 (by decide) (pl_ld g hi1 _) ?_
  refine v_nil ?_
  refine d_q rfl rfl rfl rfl rfl ?_
  refine v_binb lay4 rfl rfl rfl (fun h2 => ?_) (fun h2 => ?_)
  · exact absurd h2 (by simp)
  refine v_nil ?_
  refine d_nil ?_
  refine q_n ?_
  refine w_f rfl ?_
  refine w_skip ?_
  refine q_bn ?_
  refine q_n ?_
  refine w_reg rfl ?_
  refine v_move rfl ?_
  refine v_add lay3 rfl rfl (i64r (by omega)) ?_
  refine v_assign rfl ?_
  refine v_nil ?_
  refine q_n ?_
  refine ⟨_, _, _, ?_, ⟨i + 1, rfl, by omega, rfl, rfl⟩, by omega⟩
  exact turn [some 0, some 1] rfl rfl rfl ⟨⟨_, rfl, trc_flat bo_sc rfl⟩, ⟨_, rfl, trc_flat bo_sc rfl⟩, trivial⟩ ⟨tr_pt rfl, tr_pt rfl, tr_v, trivial⟩
theorem cEqSlot (a : Slo) : PureC X 197 [.agg (stc a), .agg (stc a)] (cB (decide True)) := by
  refine PureC.of_body (drawD_ok X) (fun _ _ => Go.Proofs.Tryz.call197 _ _) Go.Proofs.Tryz.func197 rfl (n := 16) rfl ?_
  refine w_seq ?_
  refine w_reg rfl ?_
  refine v_box (m := 0) (H' := [_]) lay142 rfl rfl rfl ?_
  refine v_box (m := 1) (H' := [_, _]) lay142 rfl rfl rfl ?_
  refine v_assign (c := .v (.bool false)) rfl ?_
  refine v_nil ?_
  refine q_n ?_
  refine w_seq ?_
  refine w_seq ?_
  refine w_reg rfl ?_
  refine v_fa_pt (off' := 0) lay142 rfl rfl rfl ?_
  refine v_load_pt (.agg [_, _, _, _, _, _, _, _]) lay140 rfl rfl rfl rfl ?_
  refine v_fa_pt (off' := 0) lay142 rfl rfl rfl ?_
  refine v_load_pt (.agg [_, _, _, _, _, _, _, _]) lay140 rfl rfl rfl rfl ?_
  refine v_callb (cEqPhase _) rfl rfl (.cons (vw_agg (.cons vw_v (.cons vw_v (.cons vw_v (.cons vw_v (.cons vw_v (.cons vw_v (.cons vw_v (.cons vw_v .nil))))))))) (.cons (vw_agg (.cons vw_v (.cons vw_v (.cons vw_v (.cons vw_v (.cons vw_v (.cons vw_v (.cons vw_v (.cons vw_v .nil))))))))) .nil)) (fun h1 => ?_) (fun h1 => ?_)
  rotate_left
  · exact absurd trivial h1
  refine v_not false rfl rfl ?_
  refine v_nil ?_
  refine q_n ?_
  refine w_f rfl ?_
  refine w_skip ?_
  refine q_n ?_
  refine w_seq ?_
  refine w_seq ?_
  refine w_reg rfl ?_
  refine v_fa_pt (off' := 8) lay142 rfl rfl rfl ?_
  refine v_load_pt (.c _) lay2 rfl rfl rfl rfl ?_
  refine v_fa_pt (off' := 8) lay142 rfl rfl rfl ?_
  refine v_load_pt (.c _) lay2 rfl rfl rfl rfl ?_
  refine v_neq lay2 rfl rfl (fun h2 => ?_) (fun h2 => ?_)
  · exact absurd rfl h2
  refine v_nil ?_
  refine q_n ?_
  refine w_f rfl ?_
  refine w_skip ?_
  refine q_n ?_
  refine w_seq ?_
  refine w_reg rfl ?_
  refine v_assign (c := .v (.bool true)) rfl ?_
  refine v_nil ?_
  refine q_n ?_
  refine w_ret ?_
  refine r_r rfl ?_
  exact a_b ⟨fun _ => trivial, fun _ => rfl⟩
theorem cEqSlotS (xs : List Slo) (hx : xs.length ≤ 2 ^ 40) : PureC X 151 [.c (.sl false xs.length 9 (flat stc xs)), .c (.sl false xs.length 9 (flat stc xs))] (cB (decide True)) := by
  refine PureC.of_body (drawD_ok X) (fun _ _ => Go.Proofs.Tryz.call151 _ _) Go.Proofs.Tryz.func151 rfl (n := 27) rfl ?_
  refine w_seq ?_
  refine w_reg rfl ?_
  refine v_assign (c := .v (.bool false)) rfl ?_
  refine v_nil ?_
  refine q_n ?_
  refine w_seq ?_
  refine w_seq ?_
  refine w_reg rfl ?_
  refine v_move rfl ?_
  refine v_len_sl lay63 rfl ?_
  refine v_move rfl ?_
  refine v_len_sl lay63 rfl ?_
  refine v_neq lay3 rfl rfl (fun h1 => ?_) (fun h1 => ?_)
  · exact absurd rfl h1
  refine v_nil ?_
  refine q_n ?_
  refine w_f rfl ?_
  refine w_skip ?_
  refine q_n ?_
  refine w_seq ?_
  refine w_seq ?_
  refine w_reg rfl ?_
  refine v_assign (c := .v (.int .i64 0)) rfl ?_
  refine v_nil ?_
  refine q_n ?_
  refine w_block ?_
  refine w_loop (fun k sl H => ∃ i : Nat, k = xs.length - i ∧ i ≤ xs.length ∧ sl = sls [(0, .c (.sl false xs.length 9 (flat stc xs))), (1, .c (.sl false xs.length 9 (flat stc xs))), (5, cI i)] ∧ H = []) ?_ ?_
  · refine ⟨_, _, _, ?_, 0, rfl, Nat.zero_le _, rfl, rfl⟩
    exact turn0 ⟨tr_sl, tr_sl, tr_v, trivial⟩
  rintro k sl H ⟨i, rfl, hi, rfl, rfl⟩
  refine w_seq ?_
  refine w_seq ?_
  refine w_reg rfl ?_
  refine v_move rfl ?_
  refine v_move rfl ?_
  refine v_len_sl lay63 rfl ?_
  refine v_lss lay3 rfl rfl (fun h2 => ?_) (fun h2 => ?_)
  rotate_left
  · refine v_nil ?_
    refine q_n ?_
    refine w_f rfl ?_
    refine w_exit ?_
    refine q_e ?_
    refine q_e ?_
    refine q_hit ?_
    refine q_n ?_
    refine w_seq ?_
    refine w_reg rfl ?_
    refine v_assign (c := .v (.bool true)) rfl ?_
    refine v_nil ?_
    refine q_n ?_
    refine w_ret ?_
    refine r_r rfl ?_
    exact a_b ⟨fun _ => trivial, fun _ => rfl⟩
  have i1 : i < xs.length := by omega
  refine v_nil ?_
  refine q_n ?_
  refine w_t rfl ?_
  refine w_skip ?_
  refine q_n ?_
  refine w_seq ?_
  refine w_block ?_
  refine w_seq ?_
  refine w_draw [0, 0, 3, 7, 0, 0, 48, 112, 255, 511] [⟨0, 0, []⟩, ⟨1, 0, []⟩, ⟨2, 0, []⟩, ⟨3, 0, []⟩, ⟨4, 0, []⟩, ⟨5, 0, []⟩, ⟨6, 0, []⟩, ⟨7, 0, []⟩, ⟨8, 0, []⟩, ⟨9, 0, []⟩] rfl rfl ?_
  refine d_q rfl rfl rfl rfl rfl ?_
  refine v_move rfl ?_
  refine v_nil ?_
  refine d_q rfl rfl rfl rfl rfl ?_
  refine v_move rfl ?_
  refine v_nil ?_
  refine d_q rfl rfl rfl rfl rfl ?_
  refine v_idx_e (k := 9) (i) stc_len lay63 lay142 rfl rfl rfl (rfl) rfl (rfl) (i1) ?_
  refine v_nil ?_
  refine d_q rfl rfl rfl rfl rfl ?_
  refine v_load_vw (.agg [.v _, .v _, .v _, .v _, .v _, .v _, .v _, .v _, .v _]) lay142 rfl rfl rfl ?_
  refine v_nil ?_
  refine d_q rfl rfl rfl rfl rfl ?_
  refine v_move rfl ?_
  refine v_nil ?_
  refine d_q rfl rfl rfl rfl rfl ?_
  refine v_move rfl ?_
  refine v_nil ?_
  refine d_q rfl rfl rfl rfl rfl ?_
  refine v_idx_e (k := 9) (i) stc_len lay63 lay142 rfl rfl rfl (rfl) rfl (rfl) (i1) ?_
  refine v_nil ?_
  refine d_q rfl rfl rfl rfl rfl ?_
  refine v_load_vw (.agg [.v _, .v _, .v _, .v _, .v _, .v _, .v _, .v _, .v _]) lay142 rfl rfl rfl ?_
  refine v_nil ?_
  refine d_callb (cEqSlot _) rfl rfl rfl rfl (.cons (vw_agg (.cons vw_v (.cons vw_v (.cons vw_v (.cons vw_v (.cons vw_v (.cons vw_v (.cons vw_v (.cons vw_v (.cons vw_v .nil)))))))))) (.cons (vw_agg (.cons vw_v (.cons vw_v (.cons vw_v (.cons vw_v (.cons vw_v (.cons vw_v (.cons vw_v (.cons vw_v (.cons vw_v .nil)))))))))) .nil)) (fun h5 => ?_) (fun h5 => ?_)
  rotate_left
  · exact absurd trivial h5
  refine d_q rfl rfl rfl rfl rfl ?_
  refine v_not false rfl rfl ?_
  refine v_nil ?_
  refine d_nil ?_
  refine q_n ?_
  refine w_f rfl ?_
  refine w_skip ?_
  refine q_bn ?_
  refine q_n ?_
  refine w_reg rfl ?_
  refine v_move rfl ?_
  refine v_add lay3 rfl rfl (i64r (by omega)) ?_
  refine v_assign rfl ?_
  refine v_nil ?_
  refine q_n ?_
  refine ⟨_, _, _, ?_, ⟨i + 1, rfl, by omega, rfl, rfl⟩, by omega⟩
  exact turn0 ⟨tr_sl, tr_sl, tr_v, trivial⟩
theorem cEqPlan (p : Pln) (hx : p.1.length ≤ 2 ^ 40) : PureC X 91 [.agg (plf p), .agg (plf p)] (cB (decide True)) := by
  refine PureC.of_body (drawD_ok X) (fun _ _ => Go.Proofs.Tryz.call91 _ _) Go.Proofs.Tryz.func91 rfl (n := 21) rfl ?_
  refine w_seq ?_
  refine w_reg rfl ?_
  refine v_box (m := 0) (H' := [_]) lay65 rfl rfl rfl ?_
  refine v_box (m := 1) (H' := [_, _]) lay65 rfl rfl rfl ?_
  refine v_assign (c := .v (.bool false)) rfl ?_
  refine v_nil ?_
  refine q_n ?_
  refine w_seq ?_
  refine w_seq ?_
  refine w_reg rfl ?_
  refine v_fa_pt (off' := 0) lay65 rfl rfl rfl ?_
  refine v_load_pt (.c _) lay63 rfl rfl rfl rfl ?_
  refine v_fa_pt (off' := 0) lay65 rfl rfl rfl ?_
  refine v_load_pt (.c _) lay63 rfl rfl rfl rfl ?_
  refine v_callb (cEqSlotS _ (by omega)) rfl rfl (.cons vw_sl (.cons vw_sl .nil)) (fun h1 => ?_) (fun h1 => ?_)
  rotate_left
  · exact absurd trivial h1
  refine v_not false rfl rfl ?_
  refine v_nil ?_
  refine q_n ?_
  refine w_f rfl ?_
  refine w_skip ?_
  refine q_n ?_
  refine w_seq ?_
  refine w_seq ?_
  refine w_reg rfl ?_
  refine v_fa_pt (off' := 1) lay65 rfl rfl rfl ?_
  refine v_load_pt (.c _) lay2 rfl rfl rfl rfl ?_
  refine v_fa_pt (off' := 1) lay65 rfl rfl rfl ?_
  refine v_load_pt (.c _) lay2 rfl rfl rfl rfl ?_
  refine v_neq lay2 rfl rfl (fun h2 => ?_) (fun h2 => ?_)
  · exact absurd rfl h2
  refine v_nil ?_
  refine q_n ?_
  refine w_f rfl ?_
  refine w_skip ?_
  refine q_n ?_
  refine w_seq ?_
  refine w_seq ?_
  refine w_reg rfl ?_
  refine v_fa_pt (off' := 2) lay65 rfl rfl rfl ?_
  refine v_load_pt (.c _) lay2 rfl rfl rfl rfl ?_
  refine v_fa_pt (off' := 2) lay65 rfl rfl rfl ?_
  refine v_load_pt (.c _) lay2 rfl rfl rfl rfl ?_
  refine v_neq lay2 rfl rfl (fun h3 => ?_) (fun h3 => ?_)
  · exact absurd rfl h3
  refine v_nil ?_
  refine q_n ?_
  refine w_f rfl ?_
  refine w_skip ?_
  refine q_n ?_
  refine w_seq ?_
  refine w_reg rfl ?_
  refine v_assign (c := .v (.bool true)) rfl ?_
  refine v_nil ?_
  refine q_n ?_
  refine w_ret ?_
  refine r_r rfl ?_
  exact a_b ⟨fun _ => trivial, fun _ => rfl⟩
theorem cEqPlanS (xs : List Pln) (hx : xs.length ≤ 2 ^ 40) (hw : ∀ x ∈ xs, x.1.length ≤ 2 ^ 40) : PureC X 34 [.c (.sl false xs.length 3 (flat plc xs)), .c (.sl false xs.length 3 (flat plc xs))] (cB (decide True)) := by
  refine PureC.of_body (drawD_ok X) (fun _ _ => Go.Proofs.Tryz.call34 _ _) Go.Proofs.Tryz.func34 rfl (n := 27) rfl ?_
  refine w_seq ?_
  refine w_reg rfl ?_
  refine v_assign (c := .v (.bool false)) rfl ?_
  refine v_nil ?_
  refine q_n ?_
  refine w_seq ?_
  refine w_seq ?_
  refine w_reg rfl ?_
  refine v_move rfl ?_
  refine v_len_sl lay33 rfl ?_
  refine v_move rfl ?_
  refine v_len_sl lay33 rfl ?_
  refine v_neq lay3 rfl rfl (fun h1 => ?_) (fun h1 => ?_)
  · exact absurd rfl h1
  refine v_nil ?_
  refine q_n ?_
  refine w_f rfl ?_
  refine w_skip ?_
  refine q_n ?_
  refine w_seq ?_
  refine w_seq ?_
  refine w_reg rfl ?_
  refine v_assign (c := .v (.int .i64 0)) rfl ?_
  refine v_nil ?_
  refine q_n ?_
  refine w_block ?_
  refine w_loop (fun k sl H => ∃ i : Nat, k = xs.length - i ∧ i ≤ xs.length ∧ sl = sls [(0, .c (.sl false xs.length 3 (flat plc xs))), (1, .c (.sl false xs.length 3 (flat plc xs))), (5, cI i)] ∧ H = []) ?_ ?_
  · refine ⟨_, _, _, ?_, 0, rfl, Nat.zero_le _, rfl, rfl⟩
    exact turn0 ⟨tr_sl, tr_sl, tr_v, trivial⟩
  rintro k sl H ⟨i, rfl, hi, rfl, rfl⟩
  refine w_seq ?_
  refine w_seq ?_
  refine w_reg rfl ?_
  refine v_move rfl ?_
  refine v_move rfl ?_
  refine v_len_sl lay33 rfl ?_
  refine v_lss lay3 rfl rfl (fun h2 => ?_) (fun h2 => ?_)
  rotate_left
  · refine v_nil ?_
    refine q_n ?_
    refine w_f rfl ?_
    refine w_exit ?_
    refine q_e ?_
    refine q_e ?_
    refine q_hit ?_
    refine q_n ?_
    refine w_seq ?_
    refine w_reg rfl ?_
    refine v_assign (c := .v (.bool true)) rfl ?_
    refine v_nil ?_
    refine q_n ?_
    refine w_ret ?_
    refine r_r rfl ?_
    exact a_b ⟨fun _ => trivial, fun _ => rfl⟩
  have i1 : i < xs.length := by omega
  refine v_nil ?_
  refine q_n ?_
  refine w_t rfl ?_
  refine w_skip ?_
  refine q_n ?_
  refine w_seq ?_
  refine w_block ?_
  refine w_seq ?_
  refine w_draw [0, 0, 3, 7, 0, 0, 48, 112, 255, 511] [⟨0, 0, []⟩, ⟨1, 0, []⟩, ⟨2, 0, []⟩, ⟨3, 0, []⟩, ⟨4, 0, []⟩, ⟨5, 0, []⟩, ⟨6, 0, []⟩, ⟨7, 0, []⟩, ⟨8, 0, []⟩, ⟨9, 0, []⟩] rfl rfl ?_
  refine d_q rfl rfl rfl rfl rfl ?_
  refine v_move rfl ?_
  refine v_nil ?_
  refine d_q rfl rfl rfl rfl rfl ?_
  refine v_move rfl ?_
  refine v_nil ?_
  refine d_q rfl rfl rfl rfl rfl ?_
  refine v_idx_e (k := 3) (i) plc_len lay33 lay65 rfl rfl rfl (rfl) rfl (rfl) (i1) ?_
  refine v_nil ?_
  refine d_q rfl rfl rfl rfl rfl ?_
  refine v_load_vw (.agg [_, .v _, .v _]) lay65 rfl rfl rfl ?_
  refine v_nil ?_
  refine d_q rfl rfl rfl rfl rfl ?_
  refine v_move rfl ?_
  refine v_nil ?_
  refine d_q rfl rfl rfl rfl rfl ?_
  refine v_move rfl ?_
  refine v_nil ?_
  refine d_q rfl rfl rfl rfl rfl ?_
  refine v_idx_e (k := 3) (i) plc_len lay33 lay65 rfl rfl rfl (rfl) rfl (rfl) (i1) ?_
  refine v_nil ?_
  refine d_q rfl rfl rfl rfl rfl ?_
  refine v_load_vw (.agg [_, .v _, .v _]) lay65 rfl rfl rfl ?_
  refine v_nil ?_
  refine d_callb (cEqPlan _ (hw _ (List.getElem_mem i1))) rfl rfl rfl rfl (.cons (vw_agg (.cons vw_sl (.cons vw_v (.cons vw_v .nil)))) (.cons (vw_agg (.cons vw_sl (.cons vw_v (.cons vw_v .nil)))) .nil)) (fun h5 => ?_) (fun h5 => ?_)
  rotate_left
  · exact absurd trivial h5
  refine d_q rfl rfl rfl rfl rfl ?_
  refine v_not false rfl rfl ?_
  refine v_nil ?_
  refine d_nil ?_
  refine q_n ?_
  refine w_f rfl ?_
  refine w_skip ?_
  refine q_bn ?_
  refine q_n ?_
  refine w_reg rfl ?_
  refine v_move rfl ?_
  refine v_add lay3 rfl rfl (i64r (by omega)) ?_
  refine v_assign rfl ?_
  refine v_nil ?_
  refine q_n ?_
  refine ⟨_, _, _, ?_, ⟨i + 1, rfl, by omega, rfl, rfl⟩, by omega⟩
  exact turn0 ⟨tr_sl, tr_sl, tr_v, trivial⟩
theorem cToPlanS (ps : List Pln) (hx : ps.length ≤ 2 ^ 30) (hP : ∀ p ∈ ps, p.1.length ≤ 2 ^ 40) : PureC X 23 [.c (.sl false ps.length 3 (flat plc ps))] (.c (.sl true ps.length 3 (flat plc ps))) := by
  refine PureC.of_body (drawD_ok X) (fun _ _ => Go.Proofs.Tryz.call23 _ _) Go.Proofs.Tryz.func23 rfl (n := 23) rfl ?_
  refine w_seq ?_
  refine w_reg rfl ?_
  refine v_assign rfl ?_
  refine v_nil ?_
  refine q_n ?_
  refine w_seq ?_
  refine w_reg rfl ?_
  refine v_move rfl ?_
  refine v_len_sl lay25 rfl ?_
  refine v_make (enc := ozc) (a0 := none) (m := 0) (H' := [_]) rfl lay33 lay65 rfl rfl rfl rfl (ps.length) (rfl) (by unfold maxLen; simp only []; omega) rfl rfl ?_
  refine v_assign rfl ?_
  refine v_nil ?_
  refine q_n ?_
  refine w_seq ?_
  refine w_seq ?_
  refine w_reg rfl ?_
  refine v_assign (c := .v (.int .i64 0)) rfl ?_
  refine v_nil ?_
  refine q_n ?_
  refine w_block ?_
  refine w_loop (fun k sl H => ∃ i : Nat, k = ps.length - i ∧ i ≤ ps.length ∧ sl = sls [(0, .c (.sl false ps.length 3 (flat plc ps))), (3, .c (.mu 0 0 ps.length 3)), (4, cI i)] ∧ H = [⟨flat ozc ((ps.map some).take i ++ List.replicate ((ps.map some).length - i) none), 65, true⟩]) ?_ ?_
  · refine ⟨_, _, _, ?_, 0, rfl, Nat.zero_le _, rfl, rfl⟩
    exact turn [some 0] rfl rfl rfl ⟨⟨_, rfl, trc_flatz ozc_sc (by simp)⟩, trivial⟩ ⟨tr_sl, tr_mu rfl, tr_v, trivial⟩
  rintro k sl H ⟨i, rfl, hi, rfl, rfl⟩
  refine w_seq ?_
  refine w_seq ?_
  refine w_reg rfl ?_
  refine v_move rfl ?_
  refine v_move rfl ?_
  refine v_len_sl lay25 rfl ?_
  refine v_lss lay3 rfl rfl (fun h1 => ?_) (fun h1 => ?_)
  rotate_left
  · refine v_nil ?_
    refine q_n ?_
    refine w_f rfl ?_
    refine w_exit ?_
    refine q_e ?_
    refine q_e ?_
    refine q_hit ?_
    refine q_n ?_
    refine w_seq ?_
    refine w_reg rfl ?_
    refine v_move rfl ?_
    refine v_assign rfl ?_
    refine v_nil ?_
    refine q_n ?_
    refine w_ret ?_
    refine r_r rfl ?_
    obtain rfl : i = ps.length := by omega
    exact a_flatz plc_sc plc_len rfl (by rw [← oz_flat, List.take_of_length_le (by simp)]; simp) rfl rfl
  have hi1 : i < ps.length := by omega
  refine v_nil ?_
  refine q_n ?_
  refine w_t rfl ?_
  refine w_skip ?_
  refine q_n ?_
  refine w_seq ?_
  refine w_block ?_
  refine w_reg rfl ?_
  refine v_move rfl ?_
  refine v_move rfl ?_
  refine v_move rfl ?_
  refine v_move rfl ?_
  refine v_idx_e (k := 3) (i) plc_len lay25 lay105 rfl rfl rfl (rfl) rfl (rfl) (hi1) ?_
  refine v_load_vw (.agg [_, .v _, .v _]) lay105 rfl rfl rfl ?_
  refine v_call (cToPlan _ _ _ (hP _ (List.getElem_mem hi1))) rfl rfl rfl (.cons (vw_agg (.cons vw_sl (.cons vw_v (.cons vw_v .nil)))) .nil) ?_
  refine v_idx_mu_e (k := 3) (off := 0) (i) lay33 lay65 rfl rfl rfl (rfl) (hi1) ?_
  refine v_store_flat (H' := [_]) i 0 ((ps.map some)[i]'(by simpa using hi1)) ozc_len lay65 rfl rfl rfl (by omega) (by simp; omega) rfl rfl (by rw [List.getElem_map]; exact (oz_set _).symm) rfl ?_
  refine v_nil ?_
  refine q_bn ?_
  refine q_n ?_
  refine w_reg rfl ?_
  refine v_move rfl ?_
  refine v_add lay3 rfl rfl (i64r (by omega)) ?_
  refine v_assign rfl ?_
  refine v_nil ?_
  refine q_n ?_
  refine ⟨_, _, _, ?_, ⟨i + 1, rfl, by omega, rfl, rfl⟩, by omega⟩
  exact turn [some 0] rfl rfl rfl ⟨⟨_, rfl, by rw [fill_step (xs := ps.map some) (by simpa using hi1)]; exact .stay (fun c hc => stays_fz (fz_flat ozc_sc _ c hc))⟩, trivial⟩ ⟨tr_sl, tr_mu rfl, tr_v, trivial⟩
theorem cSzPlanS (ps : List Pln) (l : Int) (hl : 0 ≤ l ∧ l ≤ 2 ^ 20) (hx : ps.length ≤ maxLen) (hM : ∀ p ∈ ps, p.1.length ≤ maxLen) : PureC X 17 [.c (.sl false ps.length 3 (flat plc ps)), cI l] (cI (szL szP ps l)) := by
  refine PureC.of_body (drawD_ok X) (fun _ _ => Go.Proofs.Tryz.call17 _ _) Go.Proofs.Tryz.func17 rfl (n := 27) rfl ?_
  refine w_seq ?_
  refine w_reg rfl ?_
  refine v_assign (c := .v (.int .i64 0)) rfl ?_
  refine v_nil ?_
  refine q_n ?_
  refine w_seq ?_
  refine w_reg rfl ?_
  refine v_move rfl ?_
  refine v_move rfl ?_
  refine v_len_sl lay25 rfl ?_
  refine v_sub lay3 rfl rfl (i64r (by unfold maxLen at hx; omega)) ?_
  refine v_assign rfl ?_
  refine v_nil ?_
  refine q_n ?_
  refine w_seq ?_
  refine w_seq ?_
  refine w_reg rfl ?_
  refine v_move rfl ?_
  refine v_lss lay3 rfl rfl (fun h1 => ?_) (fun h1 => ?_)
  · refine v_nil ?_
    refine q_n ?_
    refine w_t rfl ?_
    refine w_seq ?_
    refine w_reg rfl ?_
    refine v_assign (c := .v (.int .i64 (-1))) rfl ?_
    refine v_nil ?_
    refine q_n ?_
    refine w_ret (q_r ?_)
    refine r_r rfl ?_
    exact a_i (by unfold szL; rw [if_pos h1])
  refine v_nil ?_
  refine q_n ?_
  refine w_f rfl ?_
  refine w_skip ?_
  refine q_n ?_
  refine w_seq ?_
  refine w_seq ?_
  refine w_reg rfl ?_
  refine v_assign (c := .v (.int .i64 0)) rfl ?_
  refine v_nil ?_
  refine q_n ?_
  refine w_block ?_
  refine w_loop (fun k sl H => ∃ (i : Nat) (l1 : Int), k = ps.length - i ∧ i ≤ ps.length ∧ szG szP (ps.drop i) l1 = szG szP ps (l - ps.length) ∧ (0 ≤ l1 ∧ l1 ≤ 2 ^ 20) ∧ sl = sls [(0, .c (.sl false ps.length 3 (flat plc ps))), (1, cI l1), (5, cI i)] ∧ H = []) ?_ ?_
  · refine ⟨_, _, _, ?_, 0, l - ps.length, rfl, Nat.zero_le _, rfl, ⟨by omega, by omega⟩, rfl, rfl⟩
    exact turn0 ⟨tr_sl, tr_v, tr_v, trivial⟩
  rintro k sl H ⟨i, l1, rfl, hi, hp, hl1, rfl, rfl⟩
  refine w_seq ?_
  refine w_seq ?_
  refine w_reg rfl ?_
  refine v_move rfl ?_
  refine v_move rfl ?_
  refine v_len_sl lay25 rfl ?_
  refine v_lss lay3 rfl rfl (fun h2 => ?_) (fun h2 => ?_)
  rotate_left
  · refine v_nil ?_
    refine q_n ?_
    refine w_f rfl ?_
    refine w_exit ?_
    refine q_e ?_
    refine q_e ?_
    refine q_hit ?_
    refine q_n ?_
    refine w_seq ?_
    refine w_reg rfl ?_
    refine v_move rfl ?_
    refine v_assign rfl ?_
    refine v_nil ?_
    refine q_n ?_
    refine w_ret ?_
    refine r_r rfl ?_
    obtain rfl : i = ps.length := by omega
    exact a_i (by unfold szL; rw [if_neg h1, ← hp, List.drop_length]; rfl)
  have hi1 : i < ps.length := by omega
  refine v_nil ?_
  refine q_n ?_
  refine w_t rfl ?_
  refine w_skip ?_
  refine q_n ?_
  refine w_seq ?_
  refine w_block ?_
  refine w_seq ?_
  refine w_reg rfl ?_
  refine v_move rfl ?_
  refine v_move rfl ?_
  refine v_idx_e (k := 3) (i) plc_len lay25 lay105 rfl rfl rfl (rfl) rfl (rfl) (hi1) ?_
  refine v_load_vw (.agg [_, .v _, .v _]) lay105 rfl rfl rfl ?_
  refine v_move rfl ?_
  refine v_call (cSzPlan _ _ _ _ hl1 (hM _ (List.getElem_mem hi1))) rfl rfl rfl (.cons (vw_agg (.cons vw_sl (.cons vw_v (.cons vw_v .nil)))) (.cons vw_v .nil)) ?_
  refine v_assign rfl ?_
  refine v_nil ?_
  refine q_n ?_
  refine w_seq ?_
  refine w_reg rfl ?_
  refine v_move rfl ?_
  refine v_lss lay3 rfl rfl (fun h4 => ?_) (fun h4 => ?_)
  · have hneg : szP ps[i] l1 < 0 := h4
    refine v_nil ?_
    refine q_n ?_
    refine w_t rfl ?_
    refine w_seq ?_
    refine w_reg rfl ?_
    refine v_assign (c := .v (.int .i64 (-1))) rfl ?_
    refine v_nil ?_
    refine q_n ?_
    refine w_ret (q_br (q_r (q_r (q_br (q_r ?_)))))
    refine r_r rfl ?_
    exact a_i (by unfold szL; rw [if_neg h1, ← hp, szG_at hi1, if_pos hneg])
  have hneg : ¬ szP ps[i] l1 < 0 := h4
  refine v_nil ?_
  refine q_n ?_
  refine w_f rfl ?_
  refine w_skip ?_
  refine q_bn ?_
  refine q_n ?_
  refine w_reg rfl ?_
  refine v_move rfl ?_
  refine v_add lay3 rfl rfl (i64r (by unfold maxLen at hx; omega)) ?_
  refine v_assign rfl ?_
  refine v_nil ?_
  refine q_n ?_
  rw [szG_at hi1, if_neg hneg] at hp
  have hr := (szP_le _ _ hl1 hneg).1
  refine ⟨_, _, _, ?_, ⟨i + 1, _, rfl, by omega, hp, hr, rfl, rfl⟩, by omega⟩
  exact turn0 ⟨tr_sl, tr_v, tr_v, trivial⟩
theorem cToJunction (j : Jn) : PureC X 122 [.agg (jnc j)] (.agg (jnc j)) := by
  refine PureC.of_body (drawD_ok X) (fun _ _ => Go.Proofs.Tryz.call122 _ _) Go.Proofs.Tryz.func122 rfl (n := 19) rfl ?_
  refine w_seq ?_
  refine w_reg rfl ?_
  refine v_box (m := 0) (H' := [_]) lay99 rfl rfl rfl ?_
  refine v_alloc (m := 1) (H' := [_, ⟨[.v _, .v _, .f _ _, .f _ _, .f _ _, .f _ _, .f _ _, .f _ _, .f _ _, .f _ _, .f _ _, .f _ _, .f _ _, .f _ _, .f _ _, .f _ _, .f _ _, .f _ _, .f _ _, .f _ _, .f _ _, .f _ _], 72, true⟩]) lay72 rfl rfl ?_
  refine v_nil ?_
  refine q_n ?_
  refine w_seq ?_
  refine w_reg rfl ?_
  refine v_alloc (m := 2) (H' := [_, _, ⟨[.v _, .v _, .f _ _, .f _ _, .f _ _, .f _ _, .f _ _, .f _ _, .f _ _, .f _ _, .f _ _, .f _ _, .f _ _, .f _ _, .f _ _, .f _ _, .f _ _, .f _ _, .f _ _, .f _ _, .f _ _, .f _ _], 72, true⟩]) lay72 rfl rfl ?_
  refine v_nil ?_
  refine q_n ?_
  refine w_seq ?_
  refine w_reg rfl ?_
  refine v_fa_pt (off' := 0) lay99 rfl rfl rfl ?_
  refine v_load_pt (.c _) lay2 rfl rfl rfl rfl ?_
  refine v_fa_pt (off' := 0) lay72 rfl rfl rfl ?_
  refine v_store (H' := [_, _, ⟨[_, _, _, _, _, _, _, _, _, _, _, _, _, _, _, _, _, _, _, _, _, _], 72, true⟩]) lay2 rfl rfl rfl rfl rfl rfl ?_
  refine v_nil ?_
  refine q_n ?_
  refine w_seq ?_
  refine w_reg rfl ?_
  refine v_fa_pt (off' := 1) lay99 rfl rfl rfl ?_
  refine v_load_pt (.c _) lay2 rfl rfl rfl rfl ?_
  refine v_fa_pt (off' := 1) lay72 rfl rfl rfl ?_
  refine v_store (H' := [_, _, ⟨[_, _, _, _, _, _, _, _, _, _, _, _, _, _, _, _, _, _, _, _, _, _], 72, true⟩]) lay2 rfl rfl rfl rfl rfl rfl ?_
  refine v_nil ?_
  refine q_n ?_
  refine w_seq ?_
  refine w_reg rfl ?_
  refine v_fa_pt (off' := 2) lay99 rfl rfl rfl ?_
  refine v_load_pt (.agg [_, _, _, _, _, _, _, _, _, _, _, _, _, _, _, _]) lay68 rfl rfl rfl rfl ?_
  refine v_call (cToFlows _) rfl rfl rfl (.cons (vw_agg (.cons vw_f (.cons vw_f (.cons vw_f (.cons vw_f (.cons vw_f (.cons vw_f (.cons vw_f (.cons vw_f (.cons vw_f (.cons vw_f (.cons vw_f (.cons vw_f (.cons vw_f (.cons vw_f (.cons vw_f (.cons vw_f .nil))))))))))))))))) .nil) ?_
  refine v_fa_pt (off' := 2) lay72 rfl rfl rfl ?_
  refine v_store (H' := [_, _, ⟨[_, _, _, _, _, _, _, _, _, _, _, _, _, _, _, _, _, _, _, _, _, _], 72, true⟩]) lay69 rfl rfl rfl rfl rfl rfl ?_
  refine v_nil ?_
  refine q_n ?_
  refine w_seq ?_
  refine w_reg rfl ?_
  refine v_fa_pt (off' := 18) lay99 rfl rfl rfl ?_
  refine v_load_pt (.agg [_, _, _, _]) lay67 rfl rfl rfl rfl ?_
  refine v_call (cToFour _) rfl rfl rfl (.cons (vw_agg (.cons vw_f (.cons vw_f (.cons vw_f (.cons vw_f .nil))))) .nil) ?_
  refine v_fa_pt (off' := 18) lay72 rfl rfl rfl ?_
  refine v_store (H' := [_, _, ⟨[_, _, _, _, _, _, _, _, _, _, _, _, _, _, _, _, _, _, _, _, _, _], 72, true⟩]) lay70 rfl rfl rfl rfl rfl rfl ?_
  refine v_nil ?_
  refine q_n ?_
  refine w_seq ?_
  refine w_reg rfl ?_
  refine v_load_pt (.agg [_, _, _, _, _, _, _, _, _, _, _, _, _, _, _, _, _, _, _, _, _, _]) lay72 rfl rfl rfl rfl ?_
  refine v_store (H' := [_, ⟨[_, _, _, _, _, _, _, _, _, _, _, _, _, _, _, _, _, _, _, _, _, _], 72, true⟩, _]) lay72 rfl rfl rfl rfl rfl rfl ?_
  refine v_nil ?_
  refine q_n ?_
  refine w_ret ?_
  refine r_r rfl ?_
  exact a_agg (.cons tr_v (.cons tr_v (.cons tr_f (.cons tr_f (.cons tr_f (.cons tr_f (.cons tr_f (.cons tr_f (.cons tr_f (.cons tr_f (.cons tr_f (.cons tr_f (.cons tr_f (.cons tr_f (.cons tr_f (.cons tr_f (.cons tr_f (.cons tr_f (.cons tr_f (.cons tr_f (.cons tr_f (.cons tr_f .nil))))))))))))))))))))))
theorem cEqJunction (j : Jn) (hW : jW j) : PureC X 149 [.agg (jnc j), .agg (jnc j)] (cB (decide True)) := by
  refine PureC.of_body (drawD_ok X) (fun _ _ => Go.Proofs.Tryz.call149 _ _) Go.Proofs.Tryz.func149 rfl (n := 27) rfl ?_
  refine w_seq ?_
  refine w_reg rfl ?_
  refine v_box (m := 0) (H' := [_]) lay72 rfl rfl rfl ?_
  refine v_box (m := 1) (H' := [_, _]) lay72 rfl rfl rfl ?_
  refine v_assign (c := .v (.bool false)) rfl ?_
  refine v_nil ?_
  refine q_n ?_
  refine w_seq ?_
  refine w_seq ?_
  refine w_reg rfl ?_
  refine v_fa_pt (off' := 0) lay72 rfl rfl rfl ?_
  refine v_load_pt (.c _) lay2 rfl rfl rfl rfl ?_
  refine v_fa_pt (off' := 0) lay72 rfl rfl rfl ?_
  refine v_load_pt (.c _) lay2 rfl rfl rfl rfl ?_
  refine v_neq lay2 rfl rfl (fun h1 => ?_) (fun h1 => ?_)
  · exact absurd rfl h1
  refine v_nil ?_
  refine q_n ?_
  refine w_f rfl ?_
  refine w_skip ?_
  refine q_n ?_
  refine w_seq ?_
  refine w_seq ?_
  refine w_reg rfl ?_
  refine v_fa_pt (off' := 1) lay72 rfl rfl rfl ?_
  refine v_load_pt (.c _) lay2 rfl rfl rfl rfl ?_
  refine v_fa_pt (off' := 1) lay72 rfl rfl rfl ?_
  refine v_load_pt (.c _) lay2 rfl rfl rfl rfl ?_
  refine v_neq lay2 rfl rfl (fun h2 => ?_) (fun h2 => ?_)
  · exact absurd rfl h2
  refine v_nil ?_
  refine q_n ?_
  refine w_f rfl ?_
  refine w_skip ?_
  refine q_n ?_
  refine w_seq ?_
  refine w_seq ?_
  refine w_reg rfl ?_
  refine v_fa_pt (off' := 2) lay72 rfl rfl rfl ?_
  refine v_load_pt (.agg [_, _, _, _, _, _, _, _, _, _, _, _, _, _, _, _]) lay69 rfl rfl rfl rfl ?_
  refine v_fa_pt (off' := 2) lay72 rfl rfl rfl ?_
  refine v_load_pt (.agg [_, _, _, _, _, _, _, _, _, _, _, _, _, _, _, _]) lay69 rfl rfl rfl rfl ?_
  refine v_callb (cEqFlows _ hW.1) rfl rfl (.cons (vw_agg (.cons vw_f (.cons vw_f (.cons vw_f (.cons vw_f (.cons vw_f (.cons vw_f (.cons vw_f (.cons vw_f (.cons vw_f (.cons vw_f (.cons vw_f (.cons vw_f (.cons vw_f (.cons vw_f (.cons vw_f (.cons vw_f .nil))))))))))))))))) (.cons (vw_agg (.cons vw_f (.cons vw_f (.cons vw_f (.cons vw_f (.cons vw_f (.cons vw_f (.cons vw_f (.cons vw_f (.cons vw_f (.cons vw_f (.cons vw_f (.cons vw_f (.cons vw_f (.cons vw_f (.cons vw_f (.cons vw_f .nil))))))))))))))))) .nil)) (fun h3 => ?_) (fun h3 => ?_)
  rotate_left
  · exact absurd trivial h3
  refine v_not false rfl rfl ?_
  refine v_nil ?_
  refine q_n ?_
  refine w_f rfl ?_
  refine w_skip ?_
  refine q_n ?_
  refine w_seq ?_
  refine w_seq ?_
  refine w_reg rfl ?_
  refine v_fa_pt (off' := 18) lay72 rfl rfl rfl ?_
  refine v_load_pt (.agg [_, _, _, _]) lay70 rfl rfl rfl rfl ?_
  refine v_fa_pt (off' := 18) lay72 rfl rfl rfl ?_
  refine v_load_pt (.agg [_, _, _, _]) lay70 rfl rfl rfl rfl ?_
  refine v_callb (cEqFour _ (fun i hi => (hW.2 i hi).1)) rfl rfl (.cons (vw_agg (.cons vw_f (.cons vw_f (.cons vw_f (.cons vw_f .nil))))) (.cons (vw_agg (.cons vw_f (.cons vw_f (.cons vw_f (.cons vw_f .nil))))) .nil)) (fun h4 => ?_) (fun h4 => ?_)
  rotate_left
  · exact absurd trivial h4
  refine v_not false rfl rfl ?_
  refine v_nil ?_
  refine q_n ?_
  refine w_f rfl ?_
  refine w_skip ?_
  refine q_n ?_
  refine w_seq ?_
  refine w_reg rfl ?_
  refine v_assign (c := .v (.bool true)) rfl ?_
  refine v_nil ?_
  refine q_n ?_
  refine w_ret ?_
  refine r_r rfl ?_
  exact a_b ⟨fun _ => trivial, fun _ => rfl⟩
theorem cToIntS (xs : List Int) (hx : xs.length ≤ 2 ^ 40) : PureC X 123 [.c (.sl false xs.length 1 (flat int xs))] (.c (.sl true xs.length 1 (flat int xs))) := by
  refine PureC.of_body (drawD_ok X) (fun _ _ => Go.Proofs.Tryz.call123 _ _) Go.Proofs.Tryz.func123 rfl (n := 22) rfl ?_
  refine w_seq ?_
  refine w_reg rfl ?_
  refine v_assign rfl ?_
  refine v_nil ?_
  refine q_n ?_
  refine w_seq ?_
  refine w_reg rfl ?_
  refine v_move rfl ?_
  refine v_len_sl lay73 rfl ?_
  refine v_make (enc := int) (a0 := (0 : Int)) (m := 0) (H' := [_]) rfl lay73 lay2 rfl rfl rfl rfl (xs.length) (rfl) (by unfold maxLen; simp only []; omega) rfl rfl ?_
  refine v_assign rfl ?_
  refine v_nil ?_
  refine q_n ?_
  refine w_seq ?_
  refine w_seq ?_
  refine w_reg rfl ?_
  refine v_assign (c := .v (.int .i64 0)) rfl ?_
  refine v_nil ?_
  refine q_n ?_
  refine w_block ?_
  refine w_loop (fun k sl H => ∃ i : Nat, k = xs.length - i ∧ i ≤ xs.length ∧ sl = sls [(0, .c (.sl false xs.length 1 (flat int xs))), (3, .c (.mu 0 0 xs.length 1)), (4, cI i)] ∧ H = [⟨flat int (xs.take i ++ List.replicate (xs.length - i) (0 : Int)), 2, true⟩]) ?_ ?_
  · refine ⟨_, _, _, ?_, 0, rfl, Nat.zero_le _, rfl, rfl⟩
    exact turn [some 0] rfl rfl rfl ⟨⟨_, rfl, .stay (stays_flat int_sc _)⟩, trivial⟩ ⟨tr_sl, tr_mu rfl, tr_v, trivial⟩
  rintro k sl H ⟨i, rfl, hi, rfl, rfl⟩
  refine w_seq ?_
  refine w_seq ?_
  refine w_reg rfl ?_
  refine v_move rfl ?_
  refine v_move rfl ?_
  refine v_len_sl lay73 rfl ?_
  refine v_lss lay3 rfl rfl (fun h1 => ?_) (fun h1 => ?_)
  rotate_left
  · refine v_nil ?_
    refine q_n ?_
    refine w_f rfl ?_
    refine w_exit ?_
    refine q_e ?_
    refine q_e ?_
    refine q_hit ?_
    refine q_n ?_
    refine w_seq ?_
    refine w_reg rfl ?_
    refine v_move rfl ?_
    refine v_assign rfl ?_
    refine v_nil ?_
    refine q_n ?_
    refine w_ret ?_
    refine r_r rfl ?_
    obtain rfl : i = xs.length := by omega
    exact a_flat (t := 2) int_sc int_len (by simp) rfl
  have hi1 : i < xs.length := by omega
  refine v_nil ?_
  refine q_n ?_
  refine w_t rfl ?_
  refine w_skip ?_
  refine q_n ?_
  refine w_seq ?_
  refine w_block ?_
  refine w_reg rfl ?_
  refine v_move rfl ?_
  refine v_move rfl ?_
  refine v_move rfl ?_
  refine v_move rfl ?_
  refine v_idx_e (k := 1) (i) int_len lay73 lay2 rfl rfl rfl (rfl) rfl (rfl) ((by omega : i < xs.length)) ?_
  refine v_load_vw (.c (.v _)) lay2 rfl rfl rfl ?_
  refine v_idx_mu_e (k := 1) (off := 0) (i) lay73 lay2 rfl rfl rfl (rfl) ((by omega : i < xs.length)) ?_
  refine v_store_flat (H' := [_]) i 0 (xs[i]) int_len lay2 rfl rfl rfl (by omega) (by simp; omega) rfl rfl (rfl) rfl ?_
  refine v_nil ?_
  refine q_bn ?_
  refine q_n ?_
  refine w_reg rfl ?_
  refine v_move rfl ?_
  refine v_add lay3 rfl rfl (i64r (by omega)) ?_
  refine v_assign rfl ?_
  refine v_nil ?_
  refine q_n ?_
  refine ⟨_, _, _, ?_, ⟨i + 1, rfl, by omega, rfl, rfl⟩, by omega⟩
  exact turn [some 0] rfl rfl rfl ⟨⟨_, rfl, by rw [fill_step hi1]; exact .stay (stays_flat int_sc _)⟩, trivial⟩ ⟨tr_sl, tr_mu rfl, tr_v, trivial⟩
theorem cEqIntS (xs : List Int) (hx : xs.length ≤ 2 ^ 40) : PureC X 150 [.c (ints false xs), .c (ints false xs)] (cB (decide True)) := by
  refine PureC.of_body (drawD_ok X) (fun _ _ => Go.Proofs.Tryz.call150 _ _) Go.Proofs.Tryz.func150 rfl (n := 26) rfl ?_
  refine w_seq ?_
  refine w_reg rfl ?_
  refine v_assign (c := .v (.bool false)) rfl ?_
  refine v_nil ?_
  refine q_n ?_
  refine w_seq ?_
  refine w_seq ?_
  refine w_reg rfl ?_
  refine v_move rfl ?_
  refine v_len_sl lay73 rfl ?_
  refine v_move rfl ?_
  refine v_len_sl lay73 rfl ?_
  refine v_neq lay3 rfl rfl (fun h1 => ?_) (fun h1 => ?_)
  · exact absurd rfl h1
  refine v_nil ?_
  refine q_n ?_
  refine w_f rfl ?_
  refine w_skip ?_
  refine q_n ?_
  refine w_seq ?_
  refine w_seq ?_
  refine w_reg rfl ?_
  refine v_assign (c := .v (.int .i64 0)) rfl ?_
  refine v_nil ?_
  refine q_n ?_
  refine w_block ?_
  refine w_loop (fun k sl H => ∃ i : Nat, k = xs.length - i ∧ i ≤ xs.length ∧ sl = sls [(0, .c (ints false xs)), (1, .c (ints false xs)), (5, cI i)] ∧ H = []) ?_ ?_
  · refine ⟨_, _, _, ?_, 0, rfl, Nat.zero_le _, rfl, rfl⟩
    exact turn0 ⟨tr_sl, tr_sl, tr_v, trivial⟩
  rintro k sl H ⟨i, rfl, hi, rfl, rfl⟩
  refine w_seq ?_
  refine w_seq ?_
  refine w_reg rfl ?_
  refine v_move rfl ?_
  refine v_move rfl ?_
  refine v_len_sl lay73 rfl ?_
  refine v_lss lay3 rfl rfl (fun h2 => ?_) (fun h2 => ?_)
  rotate_left
  · refine v_nil ?_
    refine q_n ?_
    refine w_f rfl ?_
    refine w_exit ?_
    refine q_e ?_
    refine q_e ?_
    refine q_hit ?_
    refine q_n ?_
    refine w_seq ?_
    refine w_reg rfl ?_
    refine v_assign (c := .v (.bool true)) rfl ?_
    refine v_nil ?_
    refine q_n ?_
    refine w_ret ?_
    refine r_r rfl ?_
    exact a_b ⟨fun _ => trivial, fun _ => rfl⟩
  have i1 : i < xs.length := by omega
  refine v_nil ?_
  refine q_n ?_
  refine w_t rfl ?_
  refine w_skip ?_
  refine q_n ?_
  refine w_seq ?_
  refine w_block ?_
  refine w_seq ?_
  refine w_draw [0, 0, 3, 7, 0, 0, 48, 112, 255] [⟨0, 0, []⟩, ⟨1, 0, []⟩, ⟨2, 0, []⟩, ⟨3, 0, []⟩, ⟨4, 0, []⟩, ⟨5, 0, []⟩, ⟨6, 0, []⟩, ⟨7, 0, []⟩, ⟨8, 0, []⟩] rfl rfl ?_
  refine d_q rfl rfl rfl rfl rfl ?_
  refine v_move rfl ?_
  refine v_nil ?_
  refine d_q rfl rfl rfl rfl rfl ?_
  refine v_move rfl ?_
  refine v_nil ?_
  refine d_q rfl rfl rfl rfl rfl ?_
  refine v_idx_e (k := 1) (i) int_len lay73 lay2 rfl rfl rfl (rfl) rfl (rfl) (i1) ?_
  refine v_nil ?_
  refine d_q rfl rfl rfl rfl rfl ?_
  refine v_load_vw (.c (.v _)) lay2 rfl rfl rfl ?_
  refine v_nil ?_
  refine d_q rfl rfl rfl rfl rfl ?_
  refine v_move rfl ?_
  refine v_nil ?_
  refine d_q rfl rfl rfl rfl rfl ?_
  refine v_move rfl ?_
  refine v_nil ?_
  refine d_q rfl rfl rfl rfl rfl ?_
  refine v_idx_e (k := 1) (i) int_len lay73 lay2 rfl rfl rfl (rfl) rfl (rfl) (i1) ?_
  refine v_nil ?_
  refine d_q rfl rfl rfl rfl rfl ?_
  refine v_load_vw (.c (.v _)) lay2 rfl rfl rfl ?_
  refine v_nil ?_
  refine d_q rfl rfl rfl rfl rfl ?_
  refine v_neq lay2 rfl rfl (fun h5 => ?_) (fun h5 => ?_)
  · exact absurd rfl h5
  refine v_nil ?_
  refine d_nil ?_
  refine q_n ?_
  refine w_f rfl ?_
  refine w_skip ?_
  refine q_bn ?_
  refine q_n ?_
  refine w_reg rfl ?_
  refine v_move rfl ?_
  refine v_add lay3 rfl rfl (i64r (by omega)) ?_
  refine v_assign rfl ?_
  refine v_nil ?_
  refine q_n ?_
  refine ⟨_, _, _, ?_, ⟨i + 1, rfl, by omega, rfl, rfl⟩, by omega⟩
  exact turn0 ⟨tr_sl, tr_sl, tr_v, trivial⟩
theorem cToJoint (j : Jo) (h1 : j.2.1.length ≤ 2 ^ 40) (h2 : j.2.2.1.length ≤ 2 ^ 40) : PureC X 66 [.agg (jof false j)] (.agg (jof true j)) := by
  refine PureC.of_body (drawD_ok X) (fun _ _ => Go.Proofs.Tryz.call66 _ _) Go.Proofs.Tryz.func66 rfl (n := 20) rfl ?_
  refine w_seq ?_
  refine w_reg rfl ?_
  refine v_box (m := 0) (H' := [_]) lay101 rfl rfl rfl ?_
  refine v_alloc (m := 1) (H' := [_, ⟨[.v _, .v _, .f _ _, .f _ _, .f _ _, .f _ _, .f _ _, .f _ _, .f _ _, .f _ _, .f _ _, .f _ _, .f _ _, .f _ _, .f _ _, .f _ _, .f _ _, .f _ _, .f _ _, .f _ _, .f _ _, .f _ _, .v _, .v _, .v _], 75, true⟩]) lay75 rfl rfl ?_
  refine v_nil ?_
  refine q_n ?_
  refine w_seq ?_
  refine w_reg rfl ?_
  refine v_alloc (m := 2) (H' := [_, _, ⟨[.v _, .v _, .f _ _, .f _ _, .f _ _, .f _ _, .f _ _, .f _ _, .f _ _, .f _ _, .f _ _, .f _ _, .f _ _, .f _ _, .f _ _, .f _ _, .f _ _, .f _ _, .f _ _, .f _ _, .f _ _, .f _ _, .v _, .v _, .v _], 75, true⟩]) lay75 rfl rfl ?_
  refine v_nil ?_
  refine q_n ?_
  refine w_seq ?_
  refine w_reg rfl ?_
  refine v_fa_pt (off' := 0) lay101 rfl rfl rfl ?_
  refine v_load_pt (.agg [_, _, _, _, _, _, _, _, _, _, _, _, _, _, _, _, _, _, _, _, _, _]) lay99 rfl rfl rfl rfl ?_
  refine v_call (cToJunction _) rfl rfl rfl (.cons (vw_agg (.cons vw_v (.cons vw_v (.cons vw_f (.cons vw_f (.cons vw_f (.cons vw_f (.cons vw_f (.cons vw_f (.cons vw_f (.cons vw_f (.cons vw_f (.cons vw_f (.cons vw_f (.cons vw_f (.cons vw_f (.cons vw_f (.cons vw_f (.cons vw_f (.cons vw_f (.cons vw_f (.cons vw_f (.cons vw_f .nil))))))))))))))))))))))) .nil) ?_
  refine v_fa_pt (off' := 0) lay75 rfl rfl rfl ?_
  refine v_store (H' := [_, _, ⟨[_, _, _, _, _, _, _, _, _, _, _, _, _, _, _, _, _, _, _, _, _, _, _, _, _], 75, true⟩]) lay72 rfl rfl rfl rfl rfl rfl ?_
  refine v_nil ?_
  refine q_n ?_
  refine w_seq ?_
  refine w_reg rfl ?_
  refine v_fa_pt (off' := 22) lay101 rfl rfl rfl ?_
  refine v_load_pt (.c _) lay73 rfl rfl rfl rfl ?_
  refine v_call (cToIntS _ (by omega)) rfl rfl rfl (.cons vw_sl .nil) ?_
  refine v_fa_pt (off' := 22) lay75 rfl rfl rfl ?_
  refine v_store (H' := [_, _, ⟨[_, _, _, _, _, _, _, _, _, _, _, _, _, _, _, _, _, _, _, _, _, _, _, _, _], 75, true⟩]) lay73 rfl rfl rfl rfl rfl rfl ?_
  refine v_nil ?_
  refine q_n ?_
  refine w_seq ?_
  refine w_reg rfl ?_
  refine v_fa_pt (off' := 23) lay101 rfl rfl rfl ?_
  refine v_load_pt (.c _) lay73 rfl rfl rfl rfl ?_
  refine v_call (cToIntS _ (by omega)) rfl rfl rfl (.cons vw_sl .nil) ?_
  refine v_fa_pt (off' := 23) lay75 rfl rfl rfl ?_
  refine v_store (H' := [_, _, ⟨[_, _, _, _, _, _, _, _, _, _, _, _, _, _, _, _, _, _, _, _, _, _, _, _, _], 75, true⟩]) lay73 rfl rfl rfl rfl rfl rfl ?_
  refine v_nil ?_
  refine q_n ?_
  refine w_seq ?_
  refine w_reg rfl ?_
  refine v_fa_pt (off' := 24) lay101 rfl rfl rfl ?_
  refine v_load_pt (.c _) lay2 rfl rfl rfl rfl ?_
  refine v_fa_pt (off' := 24) lay75 rfl rfl rfl ?_
  refine v_store (H' := [_, _, ⟨[_, _, _, _, _, _, _, _, _, _, _, _, _, _, _, _, _, _, _, _, _, _, _, _, _], 75, true⟩]) lay2 rfl rfl rfl rfl rfl rfl ?_
  refine v_nil ?_
  refine q_n ?_
  refine w_seq ?_
  refine w_reg rfl ?_
  refine v_load_pt (.agg [_, _, _, _, _, _, _, _, _, _, _, _, _, _, _, _, _, _, _, _, _, _, _, _, _]) lay75 rfl rfl rfl rfl ?_
  refine v_store (H' := [_, ⟨[_, _, _, _, _, _, _, _, _, _, _, _, _, _, _, _, _, _, _, _, _, _, _, _, _], 75, true⟩, _]) lay75 rfl rfl rfl rfl rfl rfl ?_
  refine v_nil ?_
  refine q_n ?_
  refine w_ret ?_
  refine r_r rfl ?_
  exact a_agg (.cons tr_v (.cons tr_v (.cons tr_f (.cons tr_f (.cons tr_f (.cons tr_f (.cons tr_f (.cons tr_f (.cons tr_f (.cons tr_f (.cons tr_f (.cons tr_f (.cons tr_f (.cons tr_f (.cons tr_f (.cons tr_f (.cons tr_f (.cons tr_f (.cons tr_f (.cons tr_f (.cons tr_f (.cons tr_f (.cons tr_sl (.cons tr_sl (.cons tr_v .nil)))))))))))))))))))))))))
theorem cToJointS (ps : List Jo) (hx : ps.length ≤ 2 ^ 30) (hP : ∀ p ∈ ps, p.2.1.length ≤ 2 ^ 40 ∧ p.2.2.1.length ≤ 2 ^ 40) : PureC X 22 [.c (.sl false ps.length 25 (flat joc ps))] (.c (.sl true ps.length 25 (flat joc ps))) := by
  refine PureC.of_body (drawD_ok X) (fun _ _ => Go.Proofs.Tryz.call22 _ _) Go.Proofs.Tryz.func22 rfl (n := 23) rfl ?_
  refine w_seq ?_
  refine w_reg rfl ?_
  refine v_assign rfl ?_
  refine v_nil ?_
  refine q_n ?_
  refine w_seq ?_
  refine w_reg rfl ?_
  refine v_move rfl ?_
  refine v_len_sl lay24 rfl ?_
  refine v_make (enc := ozj) (a0 := none) (m := 0) (H' := [_]) rfl lay32 lay75 rfl rfl rfl rfl (ps.length) (rfl) (by unfold maxLen; simp only []; omega) rfl rfl ?_
  refine v_assign rfl ?_
  refine v_nil ?_
  refine q_n ?_
  refine w_seq ?_
  refine w_seq ?_
  refine w_reg rfl ?_
  refine v_assign (c := .v (.int .i64 0)) rfl ?_
  refine v_nil ?_
  refine q_n ?_
  refine w_block ?_
  refine w_loop (fun k sl H => ∃ i : Nat, k = ps.length - i ∧ i ≤ ps.length ∧ sl = sls [(0, .c (.sl false ps.length 25 (flat joc ps))), (3, .c (.mu 0 0 ps.length 25)), (4, cI i)] ∧ H = [⟨flat ozj ((ps.map some).take i ++ List.replicate ((ps.map some).length - i) none), 75, true⟩]) ?_ ?_
  · refine ⟨_, _, _, ?_, 0, rfl, Nat.zero_le _, rfl, rfl⟩
    exact turn [some 0] rfl rfl rfl ⟨⟨_, rfl, trc_flatz ozj_sc (by simp)⟩, trivial⟩ ⟨tr_sl, tr_mu rfl, tr_v, trivial⟩
  rintro k sl H ⟨i, rfl, hi, rfl, rfl⟩
  refine w_seq ?_
  refine w_seq ?_
  refine w_reg rfl ?_
  refine v_move rfl ?_
  refine v_move rfl ?_
  refine v_len_sl lay24 rfl ?_
  refine v_lss lay3 rfl rfl (fun h1 => ?_) (fun h1 => ?_)
  rotate_left
  · refine v_nil ?_
    refine q_n ?_
    refine w_f rfl ?_
    refine w_exit ?_
    refine q_e ?_
    refine q_e ?_
    refine q_hit ?_
    refine q_n ?_
    refine w_seq ?_
    refine w_reg rfl ?_
    refine v_move rfl ?_
    refine v_assign rfl ?_
    refine v_nil ?_
    refine q_n ?_
    refine w_ret ?_
    refine r_r rfl ?_
    obtain rfl : i = ps.length := by omega
    exact a_flatz joc_sc joc_len rfl (by rw [← ozj_flat, List.take_of_length_le (by simp)]; simp) rfl rfl
  have hi1 : i < ps.length := by omega
  refine v_nil ?_
  refine q_n ?_
  refine w_t rfl ?_
  refine w_skip ?_
  refine q_n ?_
  refine w_seq ?_
  refine w_block ?_
  refine w_reg rfl ?_
  refine v_move rfl ?_
  refine v_move rfl ?_
  refine v_move rfl ?_
  refine v_move rfl ?_
  refine v_idx_e (k := 25) (i) joc_len lay24 lay101 rfl rfl rfl (rfl) rfl (rfl) (hi1) ?_
  refine v_load_vw (.agg [.v _, .v _, .f _ _, .f _ _, .f _ _, .f _ _, .f _ _, .f _ _, .f _ _, .f _ _, .f _ _, .f _ _, .f _ _, .f _ _, .f _ _, .f _ _, .f _ _, .f _ _, .f _ _, .f _ _, .f _ _, .f _ _, _, _, .v _]) lay101 rfl rfl rfl ?_
  refine v_call (cToJoint _ (hP _ (List.getElem_mem hi1)).1 (hP _ (List.getElem_mem hi1)).2) rfl rfl rfl (.cons (vw_agg (.cons vw_v (.cons vw_v (.cons vw_f (.cons vw_f (.cons vw_f (.cons vw_f (.cons vw_f (.cons vw_f (.cons vw_f (.cons vw_f (.cons vw_f (.cons vw_f (.cons vw_f (.cons vw_f (.cons vw_f (.cons vw_f (.cons vw_f (.cons vw_f (.cons vw_f (.cons vw_f (.cons vw_f (.cons vw_f (.cons vw_sl (.cons vw_sl (.cons vw_v .nil)))))))))))))))))))))))))) .nil) ?_
  refine v_idx_mu_e (k := 25) (off := 0) (i) lay32 lay75 rfl rfl rfl (rfl) (hi1) ?_
  refine v_store_flat (H' := [_]) i 0 ((ps.map some)[i]'(by simpa using hi1)) ozj_len lay75 rfl rfl rfl (by omega) (by simp; omega) rfl rfl (by rw [List.getElem_map]; exact (ozj_set _ _).symm) rfl ?_
  refine v_nil ?_
  refine q_bn ?_
  refine q_n ?_
  refine w_reg rfl ?_
  refine v_move rfl ?_
  refine v_add lay3 rfl rfl (i64r (by omega)) ?_
  refine v_assign rfl ?_
  refine v_nil ?_
  refine q_n ?_
  refine ⟨_, _, _, ?_, ⟨i + 1, rfl, by omega, rfl, rfl⟩, by omega⟩
  exact turn [some 0] rfl rfl rfl ⟨⟨_, rfl, by rw [fill_step (xs := ps.map some) (by simpa using hi1)]; exact .stay (fun c hc => stays_fz (fz_flat ozj_sc _ c hc))⟩, trivial⟩ ⟨tr_sl, tr_mu rfl, tr_v, trivial⟩
theorem cSzJoint (j : Jo) (l : Int) (hl : 0 ≤ l ∧ l ≤ 2 ^ 20) (hx : j.2.1.length ≤ maxLen) (hy : j.2.2.1.length ≤ maxLen) : PureC X 52 [.agg (jof false j), cI l] (cI (szJ j l)) := by
  refine PureC.of_body (drawD_ok X) (fun _ _ => Go.Proofs.Tryz.call52 _ _) Go.Proofs.Tryz.func52 rfl (n := 18) rfl ?_
  refine w_seq ?_
  refine w_reg rfl ?_
  refine v_box (m := 0) (H' := [_]) lay101 rfl rfl rfl ?_
  refine v_assign (c := .v (.int .i64 0)) rfl ?_
  refine v_nil ?_
  refine q_n ?_
  refine w_seq ?_
  refine w_reg rfl ?_
  refine v_fa_pt (off' := 22) lay101 rfl rfl rfl ?_
  refine v_load_pt (.c _) lay73 rfl rfl rfl rfl ?_
  refine v_move rfl ?_
  refine v_call (cSzIntS _ _ (by first | exact hl | exact ⟨(szr_rng hl (by assumption)).1, (szr_rng hl (by assumption)).2.1⟩) (by assumption)) rfl rfl rfl (.cons vw_sl (.cons vw_v .nil)) ?_
  refine v_assign rfl ?_
  refine v_nil ?_
  refine q_n ?_
  refine w_seq ?_
  refine w_seq ?_
  refine w_reg rfl ?_
  refine v_move rfl ?_
  refine v_lss lay3 rfl rfl (fun h1 => ?_) (fun h1 => ?_)
  · refine v_nil ?_
    refine q_n ?_
    refine w_t rfl ?_
    refine w_seq ?_
    refine w_reg rfl ?_
    refine v_assign (c := .v (.int .i64 (-1))) rfl ?_
    refine v_nil ?_
    refine q_n ?_
    refine w_ret (q_r ?_)
    refine r_r rfl ?_
    exact a_i (by unfold szJ; rw [szr_neg h1])
  refine v_nil ?_
  refine q_n ?_
  refine w_f rfl ?_
  refine w_skip ?_
  refine q_n ?_
  refine w_seq ?_
  refine w_reg rfl ?_
  refine v_fa_pt (off' := 23) lay101 rfl rfl rfl ?_
  refine v_load_pt (.c _) lay73 rfl rfl rfl rfl ?_
  refine v_move rfl ?_
  refine v_call (cSzIntS _ _ (by first | exact hl | exact ⟨(szr_rng hl (by assumption)).1, (szr_rng hl (by assumption)).2.1⟩) (by assumption)) rfl rfl rfl (.cons vw_sl (.cons vw_v .nil)) ?_
  refine v_assign rfl ?_
  refine v_nil ?_
  refine q_n ?_
  refine w_seq ?_
  refine w_seq ?_
  refine w_reg rfl ?_
  refine v_move rfl ?_
  refine v_lss lay3 rfl rfl (fun h2 => ?_) (fun h2 => ?_)
  rotate_left
  · refine v_nil ?_
    refine q_n ?_
    refine w_f rfl ?_
    refine w_skip ?_
    refine q_n ?_
    refine w_seq ?_
    refine w_reg rfl ?_
    refine v_move rfl ?_
    refine v_assign rfl ?_
    refine v_nil ?_
    refine q_n ?_
    refine w_ret ?_
    refine r_r rfl ?_
    exact a_i rfl
  refine v_nil ?_
  refine q_n ?_
  refine w_t rfl ?_
  refine w_seq ?_
  refine w_reg rfl ?_
  refine v_assign (c := .v (.int .i64 (-1))) rfl ?_
  refine v_nil ?_
  refine q_n ?_
  refine w_ret (q_r ?_)
  refine r_r rfl ?_
  exact a_i (by unfold szJ at *; unfold szr at *; split at h2 <;> omega)
theorem cSzJointS (ps : List Jo) (l : Int) (hl : 0 ≤ l ∧ l ≤ 2 ^ 20) (hx : ps.length ≤ maxLen) (hM : ∀ p ∈ ps, p.2.1.length ≤ maxLen ∧ p.2.2.1.length ≤ maxLen) : PureC X 16 [.c (.sl false ps.length 25 (flat joc ps)), cI l] (cI (szL szJ ps l)) := by
  refine PureC.of_body (drawD_ok X) (fun _ _ => Go.Proofs.Tryz.call16 _ _) Go.Proofs.Tryz.func16 rfl (n := 27) rfl ?_
  refine w_seq ?_
  refine w_reg rfl ?_
  refine v_assign (c := .v (.int .i64 0)) rfl ?_
  refine v_nil ?_
  refine q_n ?_
  refine w_seq ?_
  refine w_reg rfl ?_
  refine v_move rfl ?_
  refine v_move rfl ?_
  refine v_len_sl lay24 rfl ?_
  refine v_sub lay3 rfl rfl (i64r (by unfold maxLen at hx; omega)) ?_
  refine v_assign rfl ?_
  refine v_nil ?_
  refine q_n ?_
  refine w_seq ?_
  refine w_seq ?_
  refine w_reg rfl ?_
  refine v_move rfl ?_
  refine v_lss lay3 rfl rfl (fun h1 => ?_) (fun h1 => ?_)
  · refine v_nil ?_
    refine q_n ?_
    refine w_t rfl ?_
    refine w_seq ?_
    refine w_reg rfl ?_
    refine v_assign (c := .v (.int .i64 (-1))) rfl ?_
    refine v_nil ?_
    refine q_n ?_
    refine w_ret (q_r ?_)
    refine r_r rfl ?_
    exact a_i (by unfold szL; rw [if_pos h1])
  refine v_nil ?_
  refine q_n ?_
  refine w_f rfl ?_
  refine w_skip ?_
  refine q_n ?_
  refine w_seq ?_
  refine w_seq ?_
  refine w_reg rfl ?_
  refine v_assign (c := .v (.int .i64 0)) rfl ?_
  refine v_nil ?_
  refine q_n ?_
  refine w_block ?_
  refine w_loop (fun k sl H => ∃ (i : Nat) (l1 : Int), k = ps.length - i ∧ i ≤ ps.length ∧ szG szJ (ps.drop i) l1 = szG szJ ps (l - ps.length) ∧ (0 ≤ l1 ∧ l1 ≤ 2 ^ 20) ∧ sl = sls [(0, .c (.sl false ps.length 25 (flat joc ps))), (1, cI l1), (5, cI i)] ∧ H = []) ?_ ?_
  · refine ⟨_, _, _, ?_, 0, l - ps.length, rfl, Nat.zero_le _, rfl, ⟨by omega, by omega⟩, rfl, rfl⟩
    exact turn0 ⟨tr_sl, tr_v, tr_v, trivial⟩
  rintro k sl H ⟨i, l1, rfl, hi, hp, hl1, rfl, rfl⟩
  refine w_seq ?_
  refine w_seq ?_
  refine w_reg rfl ?_
  refine v_move rfl ?_
  refine v_move rfl ?_
  refine v_len_sl lay24 rfl ?_
  refine v_lss lay3 rfl rfl (fun h2 => ?_) (fun h2 => ?_)
  rotate_left
  · refine v_nil ?_
    refine q_n ?_
    refine w_f rfl ?_
    refine w_exit ?_
    refine q_e ?_
    refine q_e ?_
    refine q_hit ?_
    refine q_n ?_
    refine w_seq ?_
    refine w_reg rfl ?_
    refine v_move rfl ?_
    refine v_assign rfl ?_
    refine v_nil ?_
    refine q_n ?_
    refine w_ret ?_
    refine r_r rfl ?_
    obtain rfl : i = ps.length := by omega
    exact a_i (by unfold szL; rw [if_neg h1, ← hp, List.drop_length]; rfl)
  have hi1 : i < ps.length := by omega
  refine v_nil ?_
  refine q_n ?_
  refine w_t rfl ?_
  refine w_skip ?_
  refine q_n ?_
  refine w_seq ?_
  refine w_block ?_
  refine w_seq ?_
  refine w_reg rfl ?_
  refine v_move rfl ?_
  refine v_move rfl ?_
  refine v_idx_e (k := 25) (i) joc_len lay24 lay101 rfl rfl rfl (rfl) rfl (rfl) (hi1) ?_
  refine v_load_vw (.agg [.v _, .v _, .f _ _, .f _ _, .f _ _, .f _ _, .f _ _, .f _ _, .f _ _, .f _ _, .f _ _, .f _ _, .f _ _, .f _ _, .f _ _, .f _ _, .f _ _, .f _ _, .f _ _, .f _ _, .f _ _, .f _ _, _, _, .v _]) lay101 rfl rfl rfl ?_
  refine v_move rfl ?_
  refine v_call (cSzJoint _ _ hl1 (hM _ (List.getElem_mem hi1)).1 (hM _ (List.getElem_mem hi1)).2) rfl rfl rfl (.cons (vw_agg (.cons vw_v (.cons vw_v (.cons vw_f (.cons vw_f (.cons vw_f (.cons vw_f (.cons vw_f (.cons vw_f (.cons vw_f (.cons vw_f (.cons vw_f (.cons vw_f (.cons vw_f (.cons vw_f (.cons vw_f (.cons vw_f (.cons vw_f (.cons vw_f (.cons vw_f (.cons vw_f (.cons vw_f (.cons vw_f (.cons vw_sl (.cons vw_sl (.cons vw_v .nil)))))))))))))))))))))))))) (.cons vw_v .nil)) ?_
  refine v_assign rfl ?_
  refine v_nil ?_
  refine q_n ?_
  refine w_seq ?_
  refine w_reg rfl ?_
  refine v_move rfl ?_
  refine v_lss lay3 rfl rfl (fun h4 => ?_) (fun h4 => ?_)
  · have hneg : szJ ps[i] l1 < 0 := h4
    refine v_nil ?_
    refine q_n ?_
    refine w_t rfl ?_
    refine w_seq ?_
    refine w_reg rfl ?_
    refine v_assign (c := .v (.int .i64 (-1))) rfl ?_
    refine v_nil ?_
    refine q_n ?_
    refine w_ret (q_br (q_r (q_r (q_br (q_r ?_)))))
    refine r_r rfl ?_
    exact a_i (by unfold szL; rw [if_neg h1, ← hp, szG_at hi1, if_pos hneg])
  have hneg : ¬ szJ ps[i] l1 < 0 := h4
  refine v_nil ?_
  refine q_n ?_
  refine w_f rfl ?_
  refine w_skip ?_
  refine q_bn ?_
  refine q_n ?_
  refine w_reg rfl ?_
  refine v_move rfl ?_
  refine v_add lay3 rfl rfl (i64r (by unfold maxLen at hx; omega)) ?_
  refine v_assign rfl ?_
  refine v_nil ?_
  refine q_n ?_
  rw [szG_at hi1, if_neg hneg] at hp
  have hr := (szJ_le _ _ hl1 hneg).1
  refine ⟨_, _, _, ?_, ⟨i + 1, _, rfl, by omega, hp, hr, rfl, rfl⟩, by omega⟩
  exact turn0 ⟨tr_sl, tr_v, tr_v, trivial⟩
theorem cEqJoint (j : Jo) (hx : j.2.1.length ≤ 2 ^ 40) (hy : j.2.2.1.length ≤ 2 ^ 40) (hW : jW j.1) : PureC X 90 [.agg (jof false j), .agg (jof false j)] (cB (decide True)) := by
  refine PureC.of_body (drawD_ok X) (fun _ _ => Go.Proofs.Tryz.call90 _ _) Go.Proofs.Tryz.func90 rfl (n := 28) rfl ?_
  refine w_seq ?_
  refine w_reg rfl ?_
  refine v_box (m := 0) (H' := [_]) lay75 rfl rfl rfl ?_
  refine v_box (m := 1) (H' := [_, _]) lay75 rfl rfl rfl ?_
  refine v_assign (c := .v (.bool false)) rfl ?_
  refine v_nil ?_
  refine q_n ?_
  refine w_seq ?_
  refine w_seq ?_
  refine w_reg rfl ?_
  refine v_fa_pt (off' := 0) lay75 rfl rfl rfl ?_
  refine v_load_pt (.agg [_, _, _, _, _, _, _, _, _, _, _, _, _, _, _, _, _, _, _, _, _, _]) lay72 rfl rfl rfl rfl ?_
  refine v_fa_pt (off' := 0) lay75 rfl rfl rfl ?_
  refine v_load_pt (.agg [_, _, _, _, _, _, _, _, _, _, _, _, _, _, _, _, _, _, _, _, _, _]) lay72 rfl rfl rfl rfl ?_
  refine v_callb (cEqJunction _ hW) rfl rfl (.cons (vw_agg (.cons vw_v (.cons vw_v (.cons vw_f (.cons vw_f (.cons vw_f (.cons vw_f (.cons vw_f (.cons vw_f (.cons vw_f (.cons vw_f (.cons vw_f (.cons vw_f (.cons vw_f (.cons vw_f (.cons vw_f (.cons vw_f (.cons vw_f (.cons vw_f (.cons vw_f (.cons vw_f (.cons vw_f (.cons vw_f .nil))))))))))))))))))))))) (.cons (vw_agg (.cons vw_v (.cons vw_v (.cons vw_f (.cons vw_f (.cons vw_f (.cons vw_f (.cons vw_f (.cons vw_f (.cons vw_f (.cons vw_f (.cons vw_f (.cons vw_f (.cons vw_f (.cons vw_f (.cons vw_f (.cons vw_f (.cons vw_f (.cons vw_f (.cons vw_f (.cons vw_f (.cons vw_f (.cons vw_f .nil))))))))))))))))))))))) .nil)) (fun h1 => ?_) (fun h1 => ?_)
  rotate_left
  · exact absurd trivial h1
  refine v_not false rfl rfl ?_
  refine v_nil ?_
  refine q_n ?_
  refine w_f rfl ?_
  refine w_skip ?_
  refine q_n ?_
  refine w_seq ?_
  refine w_seq ?_
  refine w_reg rfl ?_
  refine v_fa_pt (off' := 22) lay75 rfl rfl rfl ?_
  refine v_load_pt (.c _) lay73 rfl rfl rfl rfl ?_
  refine v_fa_pt (off' := 22) lay75 rfl rfl rfl ?_
  refine v_load_pt (.c _) lay73 rfl rfl rfl rfl ?_
  refine v_callb (cEqIntS _ (by omega)) rfl rfl (.cons vw_sl (.cons vw_sl .nil)) (fun h2 => ?_) (fun h2 => ?_)
  rotate_left
  · exact absurd trivial h2
  refine v_not false rfl rfl ?_
  refine v_nil ?_
  refine q_n ?_
  refine w_f rfl ?_
  refine w_skip ?_
  refine q_n ?_
  refine w_seq ?_
  refine w_seq ?_
  refine w_reg rfl ?_
  refine v_fa_pt (off' := 23) lay75 rfl rfl rfl ?_
  refine v_load_pt (.c _) lay73 rfl rfl rfl rfl ?_
  refine v_fa_pt (off' := 23) lay75 rfl rfl rfl ?_
  refine v_load_pt (.c _) lay73 rfl rfl rfl rfl ?_
  refine v_callb (cEqIntS _ (by omega)) rfl rfl (.cons vw_sl (.cons vw_sl .nil)) (fun h3 => ?_) (fun h3 => ?_)
  rotate_left
  · exact absurd trivial h3
  refine v_not false rfl rfl ?_
  refine v_nil ?_
  refine q_n ?_
  refine w_f rfl ?_
  refine w_skip ?_
  refine q_n ?_
  refine w_seq ?_
  refine w_seq ?_
  refine w_reg rfl ?_
  refine v_fa_pt (off' := 24) lay75 rfl rfl rfl ?_
  refine v_load_pt (.c _) lay2 rfl rfl rfl rfl ?_
  refine v_fa_pt (off' := 24) lay75 rfl rfl rfl ?_
  refine v_load_pt (.c _) lay2 rfl rfl rfl rfl ?_
  refine v_neq lay2 rfl rfl (fun h4 => ?_) (fun h4 => ?_)
  · exact absurd rfl h4
  refine v_nil ?_
  refine q_n ?_
  refine w_f rfl ?_
  refine w_skip ?_
  refine q_n ?_
  refine w_seq ?_
  refine w_reg rfl ?_
  refine v_assign (c := .v (.bool true)) rfl ?_
  refine v_nil ?_
  refine q_n ?_
  refine w_ret ?_
  refine r_r rfl ?_
  exact a_b ⟨fun _ => trivial, fun _ => rfl⟩
theorem cEqJointS (xs : List Jo) (hx : xs.length ≤ 2 ^ 40) (hw : ∀ x ∈ xs, (x.2.1.length ≤ 2 ^ 40 ∧ x.2.2.1.length ≤ 2 ^ 40) ∧ jW x.1) : PureC X 33 [.c (.sl false xs.length 25 (flat joc xs)), .c (.sl false xs.length 25 (flat joc xs))] (cB (decide True)) := by
  refine PureC.of_body (drawD_ok X) (fun _ _ => Go.Proofs.Tryz.call33 _ _) Go.Proofs.Tryz.func33 rfl (n := 27) rfl ?_
  refine w_seq ?_
  refine w_reg rfl ?_
  refine v_assign (c := .v (.bool false)) rfl ?_
  refine v_nil ?_
  refine q_n ?_
  refine w_seq ?_
  refine w_seq ?_
  refine w_reg rfl ?_
  refine v_move rfl ?_
  refine v_len_sl lay32 rfl ?_
  refine v_move rfl ?_
  refine v_len_sl lay32 rfl ?_
  refine v_neq lay3 rfl rfl (fun h1 => ?_) (fun h1 => ?_)
  · exact absurd rfl h1
  refine v_nil ?_
  refine q_n ?_
  refine w_f rfl ?_
  refine w_skip ?_
  refine q_n ?_
  refine w_seq ?_
  refine w_seq ?_
  refine w_reg rfl ?_
  refine v_assign (c := .v (.int .i64 0)) rfl ?_
  refine v_nil ?_
  refine q_n ?_
  refine w_block ?_
  refine w_loop (fun k sl H => ∃ i : Nat, k = xs.length - i ∧ i ≤ xs.length ∧ sl = sls [(0, .c (.sl false xs.length 25 (flat joc xs))), (1, .c (.sl false xs.length 25 (flat joc xs))), (5, cI i)] ∧ H = []) ?_ ?_
  · refine ⟨_, _, _, ?_, 0, rfl, Nat.zero_le _, rfl, rfl⟩
    exact turn0 ⟨tr_sl, tr_sl, tr_v, trivial⟩
  rintro k sl H ⟨i, rfl, hi, rfl, rfl⟩
  refine w_seq ?_
  refine w_seq ?_
  refine w_reg rfl ?_
  refine v_move rfl ?_
  refine v_move rfl ?_
  refine v_len_sl lay32 rfl ?_
  refine v_lss lay3 rfl rfl (fun h2 => ?_) (fun h2 => ?_)
  rotate_left
  · refine v_nil ?_
    refine q_n ?_
    refine w_f rfl ?_
    refine w_exit ?_
    refine q_e ?_
    refine q_e ?_
    refine q_hit ?_
    refine q_n ?_
    refine w_seq ?_
    refine w_reg rfl ?_
    refine v_assign (c := .v (.bool true)) rfl ?_
    refine v_nil ?_
    refine q_n ?_
    refine w_ret ?_
    refine r_r rfl ?_
    exact a_b ⟨fun _ => trivial, fun _ => rfl⟩
  have i1 : i < xs.length := by omega
  refine v_nil ?_
  refine q_n ?_
  refine w_t rfl ?_
  refine w_skip ?_
  refine q_n ?_
  refine w_seq ?_
  refine w_block ?_
  refine w_seq ?_
  refine w_draw [0, 0, 3, 7, 0, 0, 48, 112, 255, 511] [⟨0, 0, []⟩, ⟨1, 0, []⟩, ⟨2, 0, []⟩, ⟨3, 0, []⟩, ⟨4, 0, []⟩, ⟨5, 0, []⟩, ⟨6, 0, []⟩, ⟨7, 0, []⟩, ⟨8, 0, []⟩, ⟨9, 0, []⟩] rfl rfl ?_
  refine d_q rfl rfl rfl rfl rfl ?_
  refine v_move rfl ?_
  refine v_nil ?_
  refine d_q rfl rfl rfl rfl rfl ?_
  refine v_move rfl ?_
  refine v_nil ?_
  refine d_q rfl rfl rfl rfl rfl ?_
  refine v_idx_e (k := 25) (i) joc_len lay32 lay75 rfl rfl rfl (rfl) rfl (rfl) (i1) ?_
  refine v_nil ?_
  refine d_q rfl rfl rfl rfl rfl ?_
  refine v_load_vw (.agg [.v _, .v _, .f _ _, .f _ _, .f _ _, .f _ _, .f _ _, .f _ _, .f _ _, .f _ _, .f _ _, .f _ _, .f _ _, .f _ _, .f _ _, .f _ _, .f _ _, .f _ _, .f _ _, .f _ _, .f _ _, .f _ _, _, _, .v _]) lay75 rfl rfl rfl ?_
  refine v_nil ?_
  refine d_q rfl rfl rfl rfl rfl ?_
  refine v_move rfl ?_
  refine v_nil ?_
  refine d_q rfl rfl rfl rfl rfl ?_
  refine v_move rfl ?_
  refine v_nil ?_
  refine d_q rfl rfl rfl rfl rfl ?_
  refine v_idx_e (k := 25) (i) joc_len lay32 lay75 rfl rfl rfl (rfl) rfl (rfl) (i1) ?_
  refine v_nil ?_
  refine d_q rfl rfl rfl rfl rfl ?_
  refine v_load_vw (.agg [.v _, .v _, .f _ _, .f _ _, .f _ _, .f _ _, .f _ _, .f _ _, .f _ _, .f _ _, .f _ _, .f _ _, .f _ _, .f _ _, .f _ _, .f _ _, .f _ _, .f _ _, .f _ _, .f _ _, .f _ _, .f _ _, _, _, .v _]) lay75 rfl rfl rfl ?_
  refine v_nil ?_
  refine d_callb (cEqJoint _ (hw _ (List.getElem_mem i1)).1.1 (hw _ (List.getElem_mem i1)).1.2 (hw _ (List.getElem_mem i1)).2) rfl rfl rfl rfl (.cons (vw_agg (.cons vw_v (.cons vw_v (.cons vw_f (.cons vw_f (.cons vw_f (.cons vw_f (.cons vw_f (.cons vw_f (.cons vw_f (.cons vw_f (.cons vw_f (.cons vw_f (.cons vw_f (.cons vw_f (.cons vw_f (.cons vw_f (.cons vw_f (.cons vw_f (.cons vw_f (.cons vw_f (.cons vw_f (.cons vw_f (.cons vw_sl (.cons vw_sl (.cons vw_v .nil)))))))))))))))))))))))))) (.cons (vw_agg (.cons vw_v (.cons vw_v (.cons vw_f (.cons vw_f (.cons vw_f (.cons vw_f (.cons vw_f (.cons vw_f (.cons vw_f (.cons vw_f (.cons vw_f (.cons vw_f (.cons vw_f (.cons vw_f (.cons vw_f (.cons vw_f (.cons vw_f (.cons vw_f (.cons vw_f (.cons vw_f (.cons vw_f (.cons vw_f (.cons vw_sl (.cons vw_sl (.cons vw_v .nil)))))))))))))))))))))))))) .nil)) (fun h5 => ?_) (fun h5 => ?_)
  rotate_left
  · exact absurd trivial h5
  refine d_q rfl rfl rfl rfl rfl ?_
  refine v_not false rfl rfl ?_
  refine v_nil ?_
  refine d_nil ?_
  refine q_n ?_
  refine w_f rfl ?_
  refine w_skip ?_
  refine q_bn ?_
  refine q_n ?_
  refine w_reg rfl ?_
  refine v_move rfl ?_
  refine v_add lay3 rfl rfl (i64r (by omega)) ?_
  refine v_assign rfl ?_
  refine v_nil ?_
  refine q_n ?_
  refine ⟨_, _, _, ?_, ⟨i + 1, rfl, by omega, rfl, rfl⟩, by omega⟩
  exact turn0 ⟨tr_sl, tr_sl, tr_v, trivial⟩
end Go.VL
namespace Go.VL
open Go.RowKit
set_option maxRecDepth 20000
set_option maxHeartbeats 8000000
abbrev Tw := List Rd × List (Option Nat) × List Jo × List Pln × Int × Option Nat × Option Nat
abbrev twf (o : Bool) (t : Tw) : List C := [rds o t.1, flo o t.2.1, jos o t.2.2.1, pls o t.2.2.2.1, .v (.int .i64 t.2.2.2.2.1), .f .f32 t.2.2.2.2.2.1, .f .f32 t.2.2.2.2.2.2]
/-- How long the lists of a town are at most. -/
def tB (n : Nat) (t : Tw) : Prop := t.1.length ≤ n ∧ t.2.1.length ≤ n ∧ t.2.2.1.length ≤ n ∧ (∀ j ∈ t.2.2.1, j.2.1.length ≤ n ∧ j.2.2.1.length ≤ n) ∧ t.2.2.2.1.length ≤ n ∧ ∀ p ∈ t.2.2.2.1, p.1.length ≤ n
/-- Slots whose ticks are words. -/
def pW (p : Pln) : Prop := ∀ s ∈ p.1, -9223372036854775808 ≤ s.2 ∧ s.2 ≤ 9223372036854775807
/-- A town's numbers are singles, and words. -/
def tF (t : Tw) : Prop := (∀ r ∈ t.1, rW r) ∧ (∀ x ∈ t.2.1, Sg x) ∧ (∀ j ∈ t.2.2.1, jW j.1) ∧ Sg t.2.2.2.2.2.1 ∧ Sg t.2.2.2.2.2.2 ∧ ∀ p ∈ t.2.2.2.1, pW p
def szT (t : Tw) (l : Int) : Int := szL szP t.2.2.2.1 (szL szJ t.2.2.1 (szr t.2.1.length (szr t.1.length l)))
theorem szT_le {t : Tw} {l : Int} (hl : 0 ≤ l ∧ l ≤ 2 ^ 20) (h : ¬ szT t l < 0) : tB (2 ^ 20) t ∧ 0 ≤ szT t l ∧ szT t l ≤ 2 ^ 20 := by
  unfold szT at h ⊢
  by_cases h1 : szr t.1.length l < 0
  · rw [szr_neg h1, szL_neg (f := szJ) (show (-1 : Int) < 0 by decide), szL_neg (by decide)] at h
    exact absurd (show (-1 : Int) < 0 by decide) h
  have a1 := szr_rng hl h1
  by_cases h2 : szr t.2.1.length (szr t.1.length l) < 0
  · rw [szL_neg (f := szJ) h2, szL_neg (by decide)] at h
    exact absurd (show (-1 : Int) < 0 by decide) h
  have a2 := szr_rng ⟨a1.1, a1.2.1⟩ h2
  by_cases h3 : szL szJ t.2.2.1 (szr t.2.1.length (szr t.1.length l)) < 0
  · rw [szL_neg (by omega)] at h
    exact absurd (show (-1 : Int) < 0 by decide) h
  obtain ⟨b1, b2, b3⟩ := szL_le szJ_le ⟨a2.1, a2.2.1⟩ h3
  obtain ⟨c1, c2, c3⟩ := szL_le szP_le b3 h
  exact ⟨⟨by omega, by omega, b1, b2, c1, c2⟩, c3⟩
theorem szT_1 {t : Tw} {l : Int} (h : szr t.1.length l < 0) : szT t l = -1 := by
  unfold szT
  rw [szr_neg h, szL_neg (f := szJ) (show (-1 : Int) < 0 by decide), szL_neg (by decide)]
theorem szT_2 {t : Tw} {l : Int} (h : szr t.2.1.length (szr t.1.length l) < 0) : szT t l = -1 := by
  unfold szT
  rw [szL_neg (f := szJ) h, szL_neg (by decide)]
theorem szT_3 {t : Tw} {l : Int} (h : szL szJ t.2.2.1 (szr t.2.1.length (szr t.1.length l)) < 0) : szT t l = -1 := by
  unfold szT
  rw [szL_neg h]
theorem szL_m1 {α : Type} {f : α → Int → Int} {ps : List α} {l : Int} (h : szL f ps l < 0) : szL f ps l = -1 := by
  unfold szL at h ⊢
  split at h
  · rename_i h1
    rw [if_pos h1]
  · rename_i h1
    rw [if_neg h1]
    generalize l - (ps.length : Int) = q at h h1
    induction ps generalizing q with
    | nil => exact absurd h h1
    | cons p r ih =>
      unfold szG at h ⊢
      split at h
      · rename_i h2
        rw [if_pos h2]
      · rename_i h2
        rw [if_neg h2]
        exact ih _ h h2
theorem szT_4 {t : Tw} {l : Int} (h : szT t l < 0) : szT t l = -1 := szL_m1 h
theorem cSzTown (t : Tw) (l : Int) (hl : 0 ≤ l ∧ l ≤ 2 ^ 20) (hM : tB maxLen t) : PureC X 5 [.agg (twf false t), cI l] (cI (szT t l)) := by
  refine PureC.of_body (drawD_ok X) (fun _ _ => Go.Proofs.Tryz.call5 _ _) Go.Proofs.Tryz.func5 rfl (n := 30) rfl ?_
  refine w_seq ?_
  refine w_reg rfl ?_
  refine v_box (m := 0) (H' := [_]) lay28 rfl rfl rfl ?_
  refine v_assign (c := .v (.int .i64 0)) rfl ?_
  refine v_nil ?_
  refine q_n ?_
  refine w_seq ?_
  refine w_reg rfl ?_
  refine v_fa_pt (off' := 0) lay28 rfl rfl rfl ?_
  refine v_load_pt (.c _) lay22 rfl rfl rfl rfl ?_
  refine v_move rfl ?_
  refine v_call (cSzRoadS _ _ hl hM.1) rfl rfl rfl (.cons vw_sl (.cons vw_v .nil)) ?_
  refine v_assign rfl ?_
  refine v_nil ?_
  refine q_n ?_
  refine w_seq ?_
  refine w_seq ?_
  refine w_reg rfl ?_
  refine v_move rfl ?_
  refine v_lss lay3 rfl rfl (fun h1 => ?_) (fun h1 => ?_)
  · refine v_nil ?_
    refine q_n ?_
    refine w_t rfl ?_
    refine w_seq ?_
    refine w_reg rfl ?_
    refine v_assign (c := .v (.int .i64 (-1))) rfl ?_
    refine v_nil ?_
    refine q_n ?_
    refine w_ret (q_r ?_)
    refine r_r rfl ?_
    exact a_i (szT_1 h1).symm
  have a1 := szr_rng hl h1
  refine v_nil ?_
  refine q_n ?_
  refine w_f rfl ?_
  refine w_skip ?_
  refine q_n ?_
  refine w_seq ?_
  refine w_reg rfl ?_
  refine v_fa_pt (off' := 1) lay28 rfl rfl rfl ?_
  refine v_load_pt (.c _) lay23 rfl rfl rfl rfl ?_
  refine v_move rfl ?_
  refine v_call (cSzFloatS _ _ ⟨a1.1, a1.2.1⟩ hM.2.1) rfl rfl rfl (.cons vw_sl (.cons vw_v .nil)) ?_
  refine v_assign rfl ?_
  refine v_nil ?_
  refine q_n ?_
  refine w_seq ?_
  refine w_seq ?_
  refine w_reg rfl ?_
  refine v_move rfl ?_
  refine v_lss lay3 rfl rfl (fun h2 => ?_) (fun h2 => ?_)
  · refine v_nil ?_
    refine q_n ?_
    refine w_t rfl ?_
    refine w_seq ?_
    refine w_reg rfl ?_
    refine v_assign (c := .v (.int .i64 (-1))) rfl ?_
    refine v_nil ?_
    refine q_n ?_
    refine w_ret (q_r ?_)
    refine r_r rfl ?_
    exact a_i (szT_2 h2).symm
  have a2 := szr_rng ⟨a1.1, a1.2.1⟩ h2
  refine v_nil ?_
  refine q_n ?_
  refine w_f rfl ?_
  refine w_skip ?_
  refine q_n ?_
  refine w_seq ?_
  refine w_reg rfl ?_
  refine v_fa_pt (off' := 2) lay28 rfl rfl rfl ?_
  refine v_load_pt (.c _) lay24 rfl rfl rfl rfl ?_
  refine v_move rfl ?_
  refine v_call (cSzJointS _ _ ⟨a2.1, a2.2.1⟩ hM.2.2.1 hM.2.2.2.1) rfl rfl rfl (.cons vw_sl (.cons vw_v .nil)) ?_
  refine v_assign rfl ?_
  refine v_nil ?_
  refine q_n ?_
  refine w_seq ?_
  refine w_seq ?_
  refine w_reg rfl ?_
  refine v_move rfl ?_
  refine v_lss lay3 rfl rfl (fun h3 => ?_) (fun h3 => ?_)
  · refine v_nil ?_
    refine q_n ?_
    refine w_t rfl ?_
    refine w_seq ?_
    refine w_reg rfl ?_
    refine v_assign (c := .v (.int .i64 (-1))) rfl ?_
    refine v_nil ?_
    refine q_n ?_
    refine w_ret (q_r ?_)
    refine r_r rfl ?_
    exact a_i (szT_3 h3).symm
  have a3 := (szL_le szJ_le ⟨a2.1, a2.2.1⟩ h3).2.2
  refine v_nil ?_
  refine q_n ?_
  refine w_f rfl ?_
  refine w_skip ?_
  refine q_n ?_
  refine w_seq ?_
  refine w_reg rfl ?_
  refine v_fa_pt (off' := 3) lay28 rfl rfl rfl ?_
  refine v_load_pt (.c _) lay25 rfl rfl rfl rfl ?_
  refine v_move rfl ?_
  refine v_call (cSzPlanS _ _ a3 hM.2.2.2.2.1 hM.2.2.2.2.2) rfl rfl rfl (.cons vw_sl (.cons vw_v .nil)) ?_
  refine v_assign rfl ?_
  refine v_nil ?_
  refine q_n ?_
  refine w_seq ?_
  refine w_seq ?_
  refine w_reg rfl ?_
  refine v_move rfl ?_
  refine v_lss lay3 rfl rfl (fun h4 => ?_) (fun h4 => ?_)
  · refine v_nil ?_
    refine q_n ?_
    refine w_t rfl ?_
    refine w_seq ?_
    refine w_reg rfl ?_
    refine v_assign (c := .v (.int .i64 (-1))) rfl ?_
    refine v_nil ?_
    refine q_n ?_
    refine w_ret (q_r ?_)
    refine r_r rfl ?_
    exact a_i (szT_4 h4).symm
  refine v_nil ?_
  refine q_n ?_
  refine w_f rfl ?_
  refine w_skip ?_
  refine q_n ?_
  refine w_seq ?_
  refine w_reg rfl ?_
  refine v_move rfl ?_
  refine v_assign rfl ?_
  refine v_nil ?_
  refine q_n ?_
  refine w_ret ?_
  refine r_r rfl ?_
  exact a_i rfl
theorem cToTown (t : Tw) (hB : tB (2 ^ 20) t) : PureC X 7 [.agg (twf false t)] (.agg (twf true t)) := by
  refine PureC.of_body (drawD_ok X) (fun _ _ => Go.Proofs.Tryz.call7 _ _) Go.Proofs.Tryz.func7 rfl (n := 30) rfl ?_
  refine w_seq ?_
  refine w_reg rfl ?_
  refine v_box (m := 0) (H' := [_]) lay28 rfl rfl rfl ?_
  refine v_alloc (m := 1) (H' := [_, ⟨[.v _, .v _, .v _, .v _, .v _, .f _ _, .f _ _], 35, true⟩]) lay35 rfl rfl ?_
  refine v_nil ?_
  refine q_n ?_
  refine w_seq ?_
  refine w_reg rfl ?_
  refine v_alloc (m := 2) (H' := [_, _, ⟨[.v _, .v _, .v _, .v _, .v _, .f _ _, .f _ _], 35, true⟩]) lay35 rfl rfl ?_
  refine v_nil ?_
  refine q_n ?_
  refine w_seq ?_
  refine w_reg rfl ?_
  refine v_fa_pt (off' := 0) lay28 rfl rfl rfl ?_
  refine v_load_pt (.c _) lay22 rfl rfl rfl rfl ?_
  refine v_call (cToRoadS _ (by have := hB.1; omega)) rfl rfl rfl (.cons vw_sl .nil) ?_
  refine v_fa_pt (off' := 0) lay35 rfl rfl rfl ?_
  refine v_store (H' := [_, _, ⟨[_, _, _, _, _, _, _], 35, true⟩]) lay31 rfl rfl rfl rfl rfl rfl ?_
  refine v_nil ?_
  refine q_n ?_
  refine w_seq ?_
  refine w_reg rfl ?_
  refine v_fa_pt (off' := 1) lay28 rfl rfl rfl ?_
  refine v_load_pt (.c _) lay23 rfl rfl rfl rfl ?_
  refine v_call (cToFloatS _ (by have := hB.2.1; omega)) rfl rfl rfl (.cons vw_sl .nil) ?_
  refine v_fa_pt (off' := 1) lay35 rfl rfl rfl ?_
  refine v_store (H' := [_, _, ⟨[_, _, _, _, _, _, _], 35, true⟩]) lay23 rfl rfl rfl rfl rfl rfl ?_
  refine v_nil ?_
  refine q_n ?_
  refine w_seq ?_
  refine w_reg rfl ?_
  refine v_fa_pt (off' := 2) lay28 rfl rfl rfl ?_
  refine v_load_pt (.c _) lay24 rfl rfl rfl rfl ?_
  refine v_call (cToJointS _ (by have := hB.2.2.1; omega) (fun j hj => by have := hB.2.2.2.1 j hj; omega)) rfl rfl rfl (.cons vw_sl .nil) ?_
  refine v_fa_pt (off' := 2) lay35 rfl rfl rfl ?_
  refine v_store (H' := [_, _, ⟨[_, _, _, _, _, _, _], 35, true⟩]) lay32 rfl rfl rfl rfl rfl rfl ?_
  refine v_nil ?_
  refine q_n ?_
  refine w_seq ?_
  refine w_reg rfl ?_
  refine v_fa_pt (off' := 3) lay28 rfl rfl rfl ?_
  refine v_load_pt (.c _) lay25 rfl rfl rfl rfl ?_
  refine v_call (cToPlanS _ (by have := hB.2.2.2.2.1; omega) (fun p hp => by have := hB.2.2.2.2.2 p hp; omega)) rfl rfl rfl (.cons vw_sl .nil) ?_
  refine v_fa_pt (off' := 3) lay35 rfl rfl rfl ?_
  refine v_store (H' := [_, _, ⟨[_, _, _, _, _, _, _], 35, true⟩]) lay33 rfl rfl rfl rfl rfl rfl ?_
  refine v_nil ?_
  refine q_n ?_
  refine w_seq ?_
  refine w_reg rfl ?_
  refine v_fa_pt (off' := 4) lay28 rfl rfl rfl ?_
  refine v_load_pt (.c _) lay2 rfl rfl rfl rfl ?_
  refine v_fa_pt (off' := 4) lay35 rfl rfl rfl ?_
  refine v_store (H' := [_, _, ⟨[_, _, _, _, _, _, _], 35, true⟩]) lay2 rfl rfl rfl rfl rfl rfl ?_
  refine v_nil ?_
  refine q_n ?_
  refine w_seq ?_
  refine w_reg rfl ?_
  refine v_fa_pt (off' := 5) lay28 rfl rfl rfl ?_
  refine v_load_pt (.c _) lay26 rfl rfl rfl rfl ?_
  refine v_fa_pt (off' := 5) lay35 rfl rfl rfl ?_
  refine v_store (H' := [_, _, ⟨[_, _, _, _, _, _, _], 35, true⟩]) lay26 rfl rfl rfl rfl rfl rfl ?_
  refine v_nil ?_
  refine q_n ?_
  refine w_seq ?_
  refine w_reg rfl ?_
  refine v_fa_pt (off' := 6) lay28 rfl rfl rfl ?_
  refine v_load_pt (.c _) lay26 rfl rfl rfl rfl ?_
  refine v_fa_pt (off' := 6) lay35 rfl rfl rfl ?_
  refine v_store (H' := [_, _, ⟨[_, _, _, _, _, _, _], 35, true⟩]) lay26 rfl rfl rfl rfl rfl rfl ?_
  refine v_nil ?_
  refine q_n ?_
  refine w_seq ?_
  refine w_reg rfl ?_
  refine v_load_pt (.agg [_, _, _, _, _, _, _]) lay35 rfl rfl rfl rfl ?_
  refine v_store (H' := [_, ⟨[_, _, _, _, _, _, _], 35, true⟩, _]) lay35 rfl rfl rfl rfl rfl rfl ?_
  refine v_nil ?_
  refine q_n ?_
  refine w_ret ?_
  refine r_r rfl ?_
  exact a_agg (.cons tr_sl (.cons tr_sl (.cons tr_sl (.cons tr_sl (.cons tr_v (.cons tr_f (.cons tr_f .nil)))))))
theorem cEqTown (t : Tw) (hB : tB (2 ^ 20) t) (hF : tF t) : PureC X 9 [.agg (twf false t), .agg (twf false t)] (cB (decide True)) := by
  refine PureC.of_body (drawD_ok X) (fun _ _ => Go.Proofs.Tryz.call9 _ _) Go.Proofs.Tryz.func9 rfl (n := 50) rfl ?_
  refine w_seq ?_
  refine w_reg rfl ?_
  refine v_box (m := 0) (H' := [_]) lay35 rfl rfl rfl ?_
  refine v_box (m := 1) (H' := [_, _]) lay35 rfl rfl rfl ?_
  refine v_assign (c := .v (.bool false)) rfl ?_
  refine v_nil ?_
  refine q_n ?_
  refine w_seq ?_
  refine w_seq ?_
  refine w_reg rfl ?_
  refine v_fa_pt (off' := 0) lay35 rfl rfl rfl ?_
  refine v_load_pt (.c _) lay31 rfl rfl rfl rfl ?_
  refine v_fa_pt (off' := 0) lay35 rfl rfl rfl ?_
  refine v_load_pt (.c _) lay31 rfl rfl rfl rfl ?_
  refine v_callb (cEqRoadS _ (by have := hB.1; omega) hF.1) rfl rfl (.cons vw_sl (.cons vw_sl .nil)) (fun h1 => ?_) (fun h1 => ?_)
  rotate_left
  · exact absurd trivial h1
  refine v_not false rfl rfl ?_
  refine v_nil ?_
  refine q_n ?_
  refine w_f rfl ?_
  refine w_skip ?_
  refine q_n ?_
  refine w_seq ?_
  refine w_seq ?_
  refine w_reg rfl ?_
  refine v_fa_pt (off' := 1) lay35 rfl rfl rfl ?_
  refine v_load_pt (.c _) lay23 rfl rfl rfl rfl ?_
  refine v_fa_pt (off' := 1) lay35 rfl rfl rfl ?_
  refine v_load_pt (.c _) lay23 rfl rfl rfl rfl ?_
  refine v_callb (cEqFloatS _ (by have := hB.2.1; omega) hF.2.1) rfl rfl (.cons vw_sl (.cons vw_sl .nil)) (fun h2 => ?_) (fun h2 => ?_)
  rotate_left
  · exact absurd trivial h2
  refine v_not false rfl rfl ?_
  refine v_nil ?_
  refine q_n ?_
  refine w_f rfl ?_
  refine w_skip ?_
  refine q_n ?_
  refine w_seq ?_
  refine w_seq ?_
  refine w_reg rfl ?_
  refine v_fa_pt (off' := 2) lay35 rfl rfl rfl ?_
  refine v_load_pt (.c _) lay32 rfl rfl rfl rfl ?_
  refine v_fa_pt (off' := 2) lay35 rfl rfl rfl ?_
  refine v_load_pt (.c _) lay32 rfl rfl rfl rfl ?_
  refine v_callb (cEqJointS _ (by have := hB.2.2.1; omega) (fun j hj => ⟨by have := hB.2.2.2.1 j hj; omega, hF.2.2.1 j hj⟩)) rfl rfl (.cons vw_sl (.cons vw_sl .nil)) (fun h3 => ?_) (fun h3 => ?_)
  rotate_left
  · exact absurd trivial h3
  refine v_not false rfl rfl ?_
  refine v_nil ?_
  refine q_n ?_
  refine w_f rfl ?_
  refine w_skip ?_
  refine q_n ?_
  refine w_seq ?_
  refine w_seq ?_
  refine w_reg rfl ?_
  refine v_fa_pt (off' := 3) lay35 rfl rfl rfl ?_
  refine v_load_pt (.c _) lay33 rfl rfl rfl rfl ?_
  refine v_fa_pt (off' := 3) lay35 rfl rfl rfl ?_
  refine v_load_pt (.c _) lay33 rfl rfl rfl rfl ?_
  refine v_callb (cEqPlanS _ (by have := hB.2.2.2.2.1; omega) (fun p hp => by have := hB.2.2.2.2.2 p hp; omega)) rfl rfl (.cons vw_sl (.cons vw_sl .nil)) (fun h4 => ?_) (fun h4 => ?_)
  rotate_left
  · exact absurd trivial h4
  refine v_not false rfl rfl ?_
  refine v_nil ?_
  refine q_n ?_
  refine w_f rfl ?_
  refine w_skip ?_
  refine q_n ?_
  refine w_seq ?_
  refine w_seq ?_
  refine w_reg rfl ?_
  refine v_fa_pt (off' := 4) lay35 rfl rfl rfl ?_
  refine v_load_pt (.c _) lay2 rfl rfl rfl rfl ?_
  refine v_fa_pt (off' := 4) lay35 rfl rfl rfl ?_
  refine v_load_pt (.c _) lay2 rfl rfl rfl rfl ?_
  refine v_neq lay2 rfl rfl (fun h5 => ?_) (fun h5 => ?_)
  · exact absurd rfl h5
  refine v_nil ?_
  refine q_n ?_
  refine w_f rfl ?_
  refine w_skip ?_
  refine q_n ?_
  refine w_seq ?_
  refine w_seq ?_
  refine w_reg rfl ?_
  refine v_fa_pt (off' := 5) lay35 rfl rfl rfl ?_
  refine v_load_pt (.c _) lay26 rfl rfl rfl rfl ?_
  refine v_conv_ff _ lay26 lay83 rfl (convF_single (by first | exact hF.2.2.2.1.1 | exact hF.2.2.2.2.1.1)) ?_
  refine v_fa_pt (off' := 5) lay35 rfl rfl rfl ?_
  refine v_load_pt (.c _) lay26 rfl rfl rfl rfl ?_
  refine v_conv_ff _ lay26 lay83 rfl (convF_single (by first | exact hF.2.2.2.1.1 | exact hF.2.2.2.2.1.1)) ?_
  refine v_callb (cSF _ (wide_ok (by first | exact hF.2.2.2.1.1 | exact hF.2.2.2.2.1.1))) rfl rfl (.cons vw_f (.cons vw_f .nil)) (fun h6 => ?_) (fun h6 => ?_)
  rotate_left
  · exact absurd trivial h6
  refine v_not false rfl rfl ?_
  refine v_nil ?_
  refine q_n ?_
  refine w_f rfl ?_
  refine w_skip ?_
  refine q_n ?_
  refine w_seq ?_
  refine w_seq ?_
  refine w_reg rfl ?_
  refine v_fa_pt (off' := 6) lay35 rfl rfl rfl ?_
  refine v_load_pt (.c _) lay26 rfl rfl rfl rfl ?_
  refine v_conv_ff _ lay26 lay83 rfl (convF_single (by first | exact hF.2.2.2.1.1 | exact hF.2.2.2.2.1.1)) ?_
  refine v_fa_pt (off' := 6) lay35 rfl rfl rfl ?_
  refine v_load_pt (.c _) lay26 rfl rfl rfl rfl ?_
  refine v_conv_ff _ lay26 lay83 rfl (convF_single (by first | exact hF.2.2.2.1.1 | exact hF.2.2.2.2.1.1)) ?_
  refine v_callb (cSF _ (wide_ok (by first | exact hF.2.2.2.1.1 | exact hF.2.2.2.2.1.1))) rfl rfl (.cons vw_f (.cons vw_f .nil)) (fun h7 => ?_) (fun h7 => ?_)
  rotate_left
  · exact absurd trivial h7
  refine v_not false rfl rfl ?_
  refine v_nil ?_
  refine q_n ?_
  refine w_f rfl ?_
  refine w_skip ?_
  refine q_n ?_
  refine w_seq ?_
  refine w_reg rfl ?_
  refine v_assign (c := .v (.bool true)) rfl ?_
  refine v_nil ?_
  refine q_n ?_
  refine w_ret ?_
  refine r_r rfl ?_
  exact a_b ⟨fun _ => trivial, fun _ => rfl⟩
end Go.VL
namespace Go.VL
open Go.RowKit
set_option maxRecDepth 20000
set_option maxHeartbeats 8000000
/-- An amount: a number that is greater than nought, or nought with no sign. -/
def amt (b : Nat) : Prop := fin (some b) = true ∧ ((ford .f32 (some b) (fOf .f32 0) == some .gt) = true ∨ b = 0)
instance (b : Nat) : Decidable (amt b) := by unfold amt; infer_instance
def amtB : Option Nat → Bool
  | none => false
  | some b => decide (amt b)
theorem amtB_some {b : Nat} : amtB (some b) = true ↔ amt b := by simp [amtB]
theorem amt_num {b : Nat} (hb : b < 2 ^ 32) {s : Bool} {m : Nat} {e : Int} (h : FloatKind.f32.format.read b = .number s m e) : amt b ↔ s = false := by
  unfold amt
  have hf := fin_num h
  rw [num_some h] at hf
  rw [order_zero h, zero_bits hb h, hf]
  cases s <;> by_cases hm : m = 0 <;> simp [hm]
theorem ge_of_amt {b : Nat} (hb : b < 2 ^ 32) (h : amt b) : (ford .f32 (some b) (fOf .f32 0) == some .gt || ford .f32 (some b) (fOf .f32 0) == some .eq) = true := by
  obtain ⟨s, m, e, hr⟩ := num_of_fin h.1
  have hs := (amt_num hb hr).1 h
  subst hs
  rw [order_zero hr]
  by_cases hm : m = 0 <;> simp [hm]
theorem sign_amt {b w : Nat} (hb : b < 2 ^ 32) (hw : convF .f32 .f64 (some b) = some (some w)) (h : fin (some b) = true) : IntKind.i64.wrap (w : Int) < 0 ↔ ¬ amt b := by
  obtain ⟨s, m, e, hr⟩ := num_of_fin h
  rw [convF_wide hr] at hw
  simp only [Option.some.injEq] at hw
  subst hw
  obtain ⟨hm, he⟩ := read_single hr
  rw [wide_sign hm he, amt_num hb hr]
  cases s <;> simp
abbrev fle (x : Option Nat) (c : Nat) : Prop := (ford .f32 x (fOf .f32 c) == some .lt || ford .f32 x (fOf .f32 c) == some .eq) = true
abbrev fge (x : Option Nat) (c : Nat) : Prop := (ford .f32 x (fOf .f32 c) == some .gt || ford .f32 x (fOf .f32 c) == some .eq) = true
/-- What is at least a quarter and not beyond all bounds is an amount. -/
theorem amt_of {x : Option Nat} (hx : Sg x) (h1 : fge x 1048576000) (h2 : fle x 1090519040) : amtB x = true := by
  cases x with
  | none => exact absurd h1 (by decide)
  | some b =>
    rw [amtB_some]
    have hc : FloatKind.f32.format.read 1048576000 = .number false 8388608 (-25) := by decide
    have hd : FloatKind.f32.format.read 1090519040 = .number false 8388608 (-20) := by decide
    have e1 : fOf .f32 1048576000 = some 1048576000 := by decide
    have e2 : fOf .f32 1090519040 = some 1090519040 := by decide
    rcases okF_read hx.1 with ⟨s, m, e, hr⟩ | ⟨s, hr⟩
    · rw [amt_num (hx.2 b rfl) hr]
      cases s with
      | false => rfl
      | true =>
        exfalso
        unfold fge at h1
        rw [e1] at h1
        simp only [ford, Option.bind_some, Ieee.Format.order, hr, hc, Ieee.Datum.order] at h1
        have hl : compare (Ieee.signed true m (e - min e (-25)).toNat) (Ieee.signed false 8388608 (-25 - min e (-25)).toNat) = Ordering.lt := by
          rw [sgn_t, sgn_f]
          show compareOfLessAndEq _ _ = _
          unfold compareOfLessAndEq
          have := Nat.mul_pos (show 0 < 8388608 by decide) (Nat.two_pow_pos (-25 - min e (-25)).toNat)
          rw [if_pos (by omega)]
        rw [hl] at h1
        exact absurd h1 (by decide)
    · exfalso
      unfold fge at h1
      unfold fle at h2
      rw [e1] at h1
      rw [e2] at h2
      simp only [ford, Option.bind_some, Ieee.Format.order, hr, hc, hd, Ieee.Datum.order] at h1 h2
      cases s
      · exact absurd h2 (by decide)
      · exact absurd h1 (by decide)
/-- A share. -/
def shr (x : Option Nat) : Prop := amtB x = true ∧ fle x 1065353216
instance (x : Option Nat) : Decidable (shr x) := by unfold shr; infer_instance
/-- A road that is valid. -/
def roadOk (r : Rd) : Prop := (∀ i : Fin 16, shr (r.1 i)) ∧ shr r.2.1 ∧ shr r.2.2.1 ∧ fge r.2.1 1015021568 ∧ fge r.2.2.1 1015021568 ∧ fge r.2.2.2 1048576000 ∧ fle r.2.2.2 1090519040
instance (r : Rd) : Decidable (roadOk r) := by unfold roadOk; infer_instance
theorem road_i {r : Rd} {i : Nat} {h : i < 16} (hn : ¬ shr (r.1 ⟨i, h⟩)) : ¬ roadOk r := fun ho => hn (ho.1 _)
theorem road_x (r : Rd) (i : Nat) (h : i < 16) : mkV false (sub (cac r.1) (i * 1) 1) = some (.c (.f .f32 (r.1 ⟨i, h⟩))) := by
  have e : sub (cac r.1) (i * 1) 1 = [.f .f32 (r.1 ⟨i, h⟩)] := by
    rw [Nat.mul_one]
    simpa using cac_sub r.1 [] h
  rw [e]
  rfl
def ticksOk (xs : List Slo) : Prop := ∀ s ∈ xs, 1 ≤ s.2 ∧ s.2 ≤ 240
def cyc : List Slo → Int → Int
  | [], _ => 0
  | s :: r, b => (s.2 + b) + cyc r b
theorem cyc_app (b : Int) : ∀ xs ys : List Slo, cyc (xs ++ ys) b = cyc xs b + cyc ys b
  | [], ys => by simp [cyc]
  | s :: r, ys => by simp only [List.cons_append, cyc, cyc_app b r ys]; omega
theorem cyc_step {xs : List Slo} {b : Int} {i : Nat} (h : i < xs.length) : cyc (xs.take i) b + (xs[i].2 + b) = cyc (xs.take (i + 1)) b := by
  rw [List.take_succ_eq_append_getElem h, cyc_app]
  simp [cyc]
theorem cyc_rng {b : Int} (hb : 0 ≤ b ∧ b ≤ 240) : ∀ {xs : List Slo}, ticksOk xs → (xs.length : Int) ≤ cyc xs b ∧ cyc xs b ≤ 480 * xs.length
  | [], _ => by simp [cyc]
  | s :: r, h => by
    have h1 := h s (by simp)
    have h2 := cyc_rng hb (xs := r) fun x hx => h x (by simp [hx])
    simp only [cyc, List.length_cons]
    push_cast
    omega
theorem tk_take {xs : List Slo} (h : ticksOk xs) (i : Nat) : ticksOk (xs.take i) := fun s hs => h s (List.mem_of_mem_take hs)
theorem tk_at {xs : List Slo} (h : ticksOk xs) {i : Nat} (hi : i < xs.length) : 1 ≤ xs[i].2 ∧ xs[i].2 ≤ 240 := h _ (List.getElem_mem hi)
def okP (xs : List Slo) (b f : Int) : Prop := ((1 ≤ (xs.length : Int) ∧ (xs.length : Int) ≤ 8) ∧ ticksOk xs ∧ (0 ≤ b ∧ b ≤ 240)) ∧ cyc xs b ≤ 240 ∧ (0 ≤ f ∧ f ≤ cyc xs b - 1)
instance (xs : List Slo) : Decidable (ticksOk xs) := by unfold ticksOk; infer_instance
instance (xs : List Slo) (b f : Int) : Decidable (okP xs b f) := by unfold okP; infer_instance
theorem tk_of {xs : List Slo} (h : ¬ ∃ s ∈ xs, ¬ (1 ≤ s.2 ∧ s.2 ≤ 240)) : ticksOk xs := fun s hm => Decidable.byContradiction fun h1 => h ⟨s, hm, h1⟩
theorem tk_not {xs : List Slo} (h : ∃ s ∈ xs, ¬ (1 ≤ s.2 ∧ s.2 ≤ 240)) : ¬ ticksOk xs := fun ht => by
  obtain ⟨s, hm, h1⟩ := h
  exact h1 (ht s hm)
/-- The reference's own length of a round: it leaves early. -/
def cyS : List Slo → Int → Int → Int
  | [], _, a => a
  | s :: r, b, a => if (1 ≤ s.2 ∧ s.2 ≤ 240) ∧ (0 ≤ b ∧ b ≤ 240) then (if 240 < a + (s.2 + b) then a + (s.2 + b) else cyS r b (a + (s.2 + b))) else 241
theorem cyS_ok {b : Int} : ∀ {xs : List Slo} {a : Int}, ticksOk xs → 0 ≤ b ∧ b ≤ 240 → a + cyc xs b ≤ 240 → cyS xs b a = a + cyc xs b
  | [], a, _, _, _ => by simp [cyS, cyc]
  | s :: r, a, h, hb, hc => by
    have h1 := h s (by simp)
    have h3 : ticksOk r := fun x hx => h x (by simp [hx])
    have h2 := cyc_rng hb h3
    simp only [cyc] at hc ⊢
    unfold cyS
    rw [if_pos ⟨h1, hb⟩, if_neg (by omega), cyS_ok h3 hb (by omega)]
    omega
theorem cyS_le {b : Int} : ∀ {xs : List Slo} {a : Int}, 1 ≤ xs.length → cyS xs b a ≤ 240 → ticksOk xs ∧ (0 ≤ b ∧ b ≤ 240) ∧ a + cyc xs b ≤ 240
  | [s], a, _, h => by
    unfold cyS at h
    split at h
    · rename_i h1
      split at h
      · omega
      · refine ⟨fun x hx => by simp at hx; subst hx; exact h1.1, h1.2, ?_⟩
        simp only [cyc]
        omega
    · omega
  | s :: s' :: r, a, _, h => by
    unfold cyS at h
    split at h
    · rename_i h1
      split at h
      · omega
      · obtain ⟨k1, k2, k3⟩ := cyS_le (xs := s' :: r) (by simp) h
        refine ⟨fun x hx => ?_, h1.2, ?_⟩
        · rcases List.mem_cons.1 hx with rfl | hx
          · exact h1.1
          · exact k1 x hx
        · have e : cyc (s :: s' :: r) b = (s.2 + b) + cyc (s' :: r) b := rfl
          omega
    · omega
theorem cyS_nn {b : Int} : ∀ {xs : List Slo} {a : Int}, 0 ≤ a → 0 ≤ cyS xs b a
  | [], a, h => h
  | s :: r, a, h => by
    unfold cyS
    split
    · split
      · omega
      · exact cyS_nn (by omega)
    · decide
theorem cyS_at {xs : List Slo} {b a : Int} {i : Nat} (h : i < xs.length) : cyS (xs.drop i) b a = if (1 ≤ xs[i].2 ∧ xs[i].2 ≤ 240) ∧ (0 ≤ b ∧ b ≤ 240) then (if 240 < a + (xs[i].2 + b) then a + (xs[i].2 + b) else cyS (xs.drop (i + 1)) b (a + (xs[i].2 + b))) else 241 := by
  rw [List.drop_eq_getElem_cons h, cyS]
theorem okS {xs : List Slo} {b f : Int} (h1 : 1 ≤ (xs.length : Int) ∧ (xs.length : Int) ≤ 8) : (cyS xs b 0 ≤ 240 ∧ (0 ≤ f ∧ f ≤ cyS xs b 0 - 1)) ↔ okP xs b f := by
  constructor
  · rintro ⟨h2, h3⟩
    obtain ⟨k1, k2, k3⟩ := cyS_le (by omega) h2
    rw [cyS_ok k1 k2 k3] at h3
    exact ⟨⟨h1, k1, k2⟩, by omega, by omega⟩
  · rintro ⟨⟨-, k1, k2⟩, k3, k4⟩
    rw [cyS_ok k1 k2 (by omega)]
    exact ⟨by omega, by omega⟩
theorem rd_ld7 (r : Rd) {i : Nat} (h : i < 16) : mkV false (reowns false (sub (rdc r) (0 + i * 1) 1)) = some (.c (.f .f32 (r.1 ⟨i, h⟩))) := by
  have e : sub (rdc r) (0 + i * 1) 1 = [.f .f32 (r.1 ⟨i, h⟩)] := by
    rw [show 0 + i * 1 = i by omega]
    exact cac_sub r.1 [.f .f32 r.2.1, .f .f32 r.2.2.1, .f .f32 r.2.2.2] h
  rw [e]
  rfl
theorem fz_sc {c : C} (h : sc c = true) : fz c = true := by cases c <;> first | rfl | cases h
theorem cInR (a lo hi : Int) : PureC X 68 [cI a, cI lo, cI hi] (cB (decide (lo ≤ a ∧ a ≤ hi))) := by
  refine PureC.of_body (drawD_ok X) (fun _ _ => Go.Proofs.Tryz.call68 _ _) Go.Proofs.Tryz.func68 rfl (n := 15) rfl ?_
  refine w_seq ?_
  refine w_reg rfl ?_
  refine v_assign (c := .v (.bool false)) rfl ?_
  refine v_nil ?_
  refine q_n ?_
  refine w_seq ?_
  refine w_reg rfl ?_
  refine v_move rfl ?_
  refine v_move rfl ?_
  refine v_leq lay2 rfl rfl (fun h1 => ?_) (fun h1 => ?_)
  rotate_left
  · refine v_move rfl ?_
    refine v_guard_off rfl rfl rfl ?_
    refine v_guard_off rfl rfl rfl ?_
    refine v_guard_off rfl rfl rfl ?_
    refine v_pick_f (v := .v (.bool false)) rfl rfl ?_
    refine v_assign rfl ?_
    refine v_nil ?_
    refine q_n ?_
    refine w_ret ?_
    refine r_r rfl ?_
    exact a_b (by simp <;> omega)
  refine v_move rfl ?_
  refine v_guard_on rfl rfl ?_
  refine v_move rfl ?_
  refine v_guard_on rfl rfl ?_
  refine v_move rfl ?_
  refine v_guard_on rfl rfl ?_
  refine v_leq lay2 rfl rfl (fun h2 => ?_) (fun h2 => ?_)
  · refine v_pick_t rfl rfl ?_
    refine v_assign rfl ?_
    refine v_nil ?_
    refine q_n ?_
    refine w_ret ?_
    refine r_r rfl ?_
    exact a_b (by simp <;> omega)
  refine v_pick_t rfl rfl ?_
  refine v_assign rfl ?_
  refine v_nil ?_
  refine q_n ?_
  refine w_ret ?_
  refine r_r rfl ?_
  exact a_b (by simp <;> omega)
theorem cIn (a lo hi : Int) : PureC X 54 [cI a, cI lo, cI hi] (cB (decide (lo ≤ a ∧ a ≤ hi))) := by
  refine PureC.of_body (drawD_ok X) (fun _ _ => Go.Proofs.Tryz.call54 _ _) Go.Proofs.Tryz.func54 rfl (n := 15) rfl ?_
  refine w_seq ?_
  refine w_reg rfl ?_
  refine v_assign (c := .v (.bool false)) rfl ?_
  refine v_nil ?_
  refine q_n ?_
  refine w_seq ?_
  refine w_reg rfl ?_
  refine v_move rfl ?_
  refine v_move rfl ?_
  refine v_geq lay2 rfl rfl (fun h1 => ?_) (fun h1 => ?_)
  rotate_left
  · refine v_move rfl ?_
    refine v_guard_off rfl rfl rfl ?_
    refine v_guard_off rfl rfl rfl ?_
    refine v_guard_off rfl rfl rfl ?_
    refine v_pick_f (v := .v (.bool false)) rfl rfl ?_
    refine v_assign rfl ?_
    refine v_nil ?_
    refine q_n ?_
    refine w_ret ?_
    refine r_r rfl ?_
    exact a_b (by simp <;> omega)
  refine v_move rfl ?_
  refine v_guard_on rfl rfl ?_
  refine v_move rfl ?_
  refine v_guard_on rfl rfl ?_
  refine v_move rfl ?_
  refine v_guard_on rfl rfl ?_
  refine v_leq lay2 rfl rfl (fun h2 => ?_) (fun h2 => ?_)
  · refine v_pick_t rfl rfl ?_
    refine v_assign rfl ?_
    refine v_nil ?_
    refine q_n ?_
    refine w_ret ?_
    refine r_r rfl ?_
    exact a_b (by simp <;> omega)
  refine v_pick_t rfl rfl ?_
  refine v_assign rfl ?_
  refine v_nil ?_
  refine q_n ?_
  refine w_ret ?_
  refine r_r rfl ?_
  exact a_b (by simp <;> omega)
theorem cPlace (a n : Int) (hn : 0 ≤ n ∧ n ≤ 2 ^ 40) : PureC X 128 [cI a, cI n] (cB (decide (0 ≤ a ∧ a ≤ n - 1))) := by
  refine PureC.of_body (drawD_ok X) (fun _ _ => Go.Proofs.Tryz.call128 _ _) Go.Proofs.Tryz.func128 rfl (n := 9) rfl ?_
  refine w_seq ?_
  refine w_reg rfl ?_
  refine v_assign (c := .v (.bool false)) rfl ?_
  refine v_nil ?_
  refine q_n ?_
  refine w_seq ?_
  refine w_reg rfl ?_
  refine v_move rfl ?_
  refine v_move rfl ?_
  refine v_sub lay2 rfl rfl (i64r (by omega)) ?_
  refine v_callb (cInR _ _ _) rfl rfl (.cons vw_v (.cons vw_v (.cons vw_v .nil))) (fun h1 => ?_) (fun h1 => ?_)
  · refine v_assign rfl ?_
    refine v_nil ?_
    refine q_n ?_
    refine w_ret ?_
    refine r_r rfl ?_
    exact a_b (by simp_all)
  refine v_assign rfl ?_
  refine v_nil ?_
  refine q_n ?_
  refine w_ret ?_
  refine r_r rfl ?_
  exact a_b (by simp_all)
theorem cFinS (x : Option Nat) : PureC X 115 [.c (.f .f32 x)] (cB (decide (fin x = true))) := by
  refine PureC.of_body (drawD_ok X) (fun _ _ => Go.Proofs.Tryz.call115 _ _) Go.Proofs.Tryz.func115 rfl (n := 7) rfl ?_
  refine w_seq ?_
  refine w_reg rfl ?_
  refine v_assign (c := .v (.bool false)) rfl ?_
  refine v_nil ?_
  refine q_n ?_
  refine w_seq ?_
  refine w_reg rfl ?_
  refine v_move rfl ?_
  refine v_move rfl ?_
  refine v_bin (c := .f _ _) lay26 rfl rfl rfl ?_
  refine v_binb lay26 rfl rfl rfl (fun h1 => ?_) (fun h1 => ?_)
  · refine v_assign rfl ?_
    refine v_nil ?_
    refine q_n ?_
    refine w_ret ?_
    refine r_r rfl ?_
    exact a_b ⟨fun _ => h1, fun _ => rfl⟩
  refine v_assign rfl ?_
  refine v_nil ?_
  refine q_n ?_
  refine w_ret ?_
  refine r_r rfl ?_
  exact a_b ⟨fun h => (by cases h), fun h => absurd (h1.symm.trans h) (by simp)⟩
theorem cFinI (x : Option Nat) : PureC X 130 [.c (.f .f32 x)] (cB (decide (fin x = true))) := by
  refine PureC.of_body (drawD_ok X) (fun _ _ => Go.Proofs.Tryz.call130 _ _) Go.Proofs.Tryz.func130 rfl (n := 7) rfl ?_
  refine w_seq ?_
  refine w_reg rfl ?_
  refine v_assign (c := .v (.bool false)) rfl ?_
  refine v_nil ?_
  refine q_n ?_
  refine w_seq ?_
  refine w_reg rfl ?_
  refine v_move rfl ?_
  refine v_move rfl ?_
  refine v_bin (c := .f _ _) lay26 rfl rfl rfl ?_
  refine v_binb lay26 rfl rfl rfl (fun h1 => ?_) (fun h1 => ?_)
  · refine v_assign rfl ?_
    refine v_nil ?_
    refine q_n ?_
    refine w_ret ?_
    refine r_r rfl ?_
    exact a_b ⟨fun _ => h1, fun _ => rfl⟩
  refine v_assign rfl ?_
  refine v_nil ?_
  refine q_n ?_
  refine w_ret ?_
  refine r_r rfl ?_
  exact a_b ⟨fun h => (by cases h), fun h => absurd (h1.symm.trans h) (by simp)⟩
theorem cFB64 (b : Nat) : PureC X 182 [.c (.f .f64 (some b))] (.c (.v (.int .u64 b))) := pure_f64bits Go.Proofs.Tryz.func182 (by kernel_rfl) rfl (by kernel_rfl) (by kernel_rfl) b
theorem cSgb (b : Nat) : PureC X 131 [.c (.f .f64 (some b))] (cB (decide (IntKind.i64.wrap (b : Int) < 0))) := by
  refine PureC.of_body (drawD_ok X) (fun _ _ => Go.Proofs.Tryz.call131 _ _) Go.Proofs.Tryz.func131 rfl (n := 7) rfl ?_
  refine w_seq ?_
  refine w_reg rfl ?_
  refine v_assign (c := .v (.bool false)) rfl ?_
  refine v_nil ?_
  refine q_n ?_
  refine w_seq ?_
  refine w_reg rfl ?_
  refine v_move rfl ?_
  refine v_call (cFB64 _) rfl rfl rfl (.cons vw_f .nil) ?_
  refine v_conv_iw lay134 lay2 rfl ?_
  refine v_lss lay2 rfl rfl (fun h1 => ?_) (fun h1 => ?_)
  · refine v_assign rfl ?_
    refine v_nil ?_
    refine q_n ?_
    refine w_ret ?_
    refine r_r rfl ?_
    exact a_b (by simp_all)
  refine v_assign rfl ?_
  refine v_nil ?_
  refine q_n ?_
  refine w_ret ?_
  refine r_r rfl ?_
  exact a_b (by simp_all)
theorem cAmSs (b : Nat) : PureC X 57 [.c (.f .f32 (some b))] (cB (decide (amtB (some b) = true))) := by
  refine PureC.of_body (drawD_ok X) (fun _ _ => Go.Proofs.Tryz.call57 _ _) Go.Proofs.Tryz.func57 rfl (n := 14) rfl ?_
  refine w_seq ?_
  refine w_reg rfl ?_
  refine v_assign (c := .v (.bool false)) rfl ?_
  refine v_nil ?_
  refine q_n ?_
  refine w_seq ?_
  refine w_reg rfl ?_
  refine v_move rfl ?_
  refine v_callb (cFinS _) rfl rfl (.cons vw_f .nil) (fun h1 => ?_) (fun h1 => ?_)
  rotate_left
  · refine v_move rfl ?_
    refine v_guard_off rfl rfl rfl ?_
    refine v_guard_off rfl rfl rfl ?_
    refine v_guard_off rfl rfl rfl ?_
    refine v_guard_un rfl rfl ?_
    refine v_guard_un rfl rfl ?_
    refine v_guard_un rfl rfl ?_
    refine v_guard_off rfl rfl rfl ?_
    refine v_pick_f (v := .v (.bool false)) rfl rfl ?_
    refine v_assign rfl ?_
    refine v_nil ?_
    refine q_n ?_
    refine w_ret ?_
    refine r_r rfl ?_
    exact a_b ⟨fun h => (by cases h), fun h => absurd (amtB_some.1 h).1 h1⟩
  refine v_move rfl ?_
  refine v_guard_on rfl rfl ?_
  refine v_move rfl ?_
  refine v_guard_on rfl rfl ?_
  refine v_binb lay26 rfl rfl rfl (fun h2 => ?_) (fun h2 => ?_)
  · refine v_guard_on rfl rfl ?_
    refine v_move rfl ?_
    refine v_guard_off rfl rfl rfl ?_
    refine v_guard_off rfl rfl rfl ?_
    refine v_guard_off rfl rfl rfl ?_
    refine v_guard_on rfl rfl ?_
    refine v_pick_t (v := .v (.bool true)) rfl rfl ?_
    refine v_pick_t rfl rfl ?_
    refine v_assign rfl ?_
    refine v_nil ?_
    refine q_n ?_
    refine w_ret ?_
    refine r_r rfl ?_
    exact a_b ⟨fun _ => amtB_some.2 ⟨h1, .inl h2⟩, fun _ => rfl⟩
  refine v_guard_on rfl rfl ?_
  refine v_move rfl ?_
  refine v_guard_on rfl rfl ?_
  refine v_move rfl ?_
  refine v_guard_on rfl rfl ?_
  refine v_call (cFB _) rfl rfl rfl (.cons vw_f .nil) ?_
  refine v_guard_on rfl rfl ?_
  refine v_eql lay135 rfl rfl (fun h3 => ?_) (fun h3 => ?_)
  · refine v_guard_on rfl rfl ?_
    refine v_pick_f rfl rfl ?_
    refine v_pick_t rfl rfl ?_
    refine v_assign rfl ?_
    refine v_nil ?_
    refine q_n ?_
    refine w_ret ?_
    refine r_r rfl ?_
    exact a_b ⟨fun _ => amtB_some.2 ⟨h1, .inr (by omega)⟩, fun _ => rfl⟩
  refine v_guard_on rfl rfl ?_
  refine v_pick_f rfl rfl ?_
  refine v_pick_t rfl rfl ?_
  refine v_assign rfl ?_
  refine v_nil ?_
  refine q_n ?_
  refine w_ret ?_
  refine r_r rfl ?_
  exact a_b ⟨fun h => (by cases h), fun h => by
    rcases (amtB_some.1 h).2 with h | h
    · exact absurd (h2.symm.trans h) (by decide)
    · omega⟩
theorem cAmSn : PureC X 57 [.c (.f .f32 none)] (cB (decide (amtB none = true))) := by
  refine PureC.of_body (drawD_ok X) (fun _ _ => Go.Proofs.Tryz.call57 _ _) Go.Proofs.Tryz.func57 rfl (n := 14) rfl ?_
  refine w_seq ?_
  refine w_reg rfl ?_
  refine v_assign (c := .v (.bool false)) rfl ?_
  refine v_nil ?_
  refine q_n ?_
  refine w_seq ?_
  refine w_reg rfl ?_
  refine v_move rfl ?_
  refine v_callb (cFinS _) rfl rfl (.cons vw_f .nil) (fun h1 => ?_) (fun h1 => ?_)
  · exact absurd h1 (by decide)
  refine v_move rfl ?_
  refine v_guard_off rfl rfl rfl ?_
  refine v_guard_off rfl rfl rfl ?_
  refine v_guard_off rfl rfl rfl ?_
  refine v_guard_un rfl rfl ?_
  refine v_guard_un rfl rfl ?_
  refine v_guard_un rfl rfl ?_
  refine v_guard_off rfl rfl rfl ?_
  refine v_pick_f (v := .v (.bool false)) rfl rfl ?_
  refine v_assign rfl ?_
  refine v_nil ?_
  refine q_n ?_
  refine w_ret ?_
  refine r_r rfl ?_
  exact a_b ⟨fun h => (by cases h), fun h => (by cases h)⟩
theorem cAmS (x : Option Nat) : PureC X 57 [.c (.f .f32 x)] (cB (decide (amtB x = true))) := by
  cases x with
  | none => exact cAmSn
  | some b => exact cAmSs b
theorem cAmIs (b w : Nat) (hb : b < 2 ^ 32) (hw : convF .f32 .f64 (some b) = some (some w)) : PureC X 71 [.c (.f .f32 (some b))] (cB (decide (amtB (some b) = true))) := by
  refine PureC.of_body (drawD_ok X) (fun _ _ => Go.Proofs.Tryz.call71 _ _) Go.Proofs.Tryz.func71 rfl (n := 15) rfl ?_
  refine w_seq ?_
  refine w_reg rfl ?_
  refine v_assign (c := .v (.bool false)) rfl ?_
  refine v_nil ?_
  refine q_n ?_
  refine w_seq ?_
  refine w_reg rfl ?_
  refine v_move rfl ?_
  refine v_binb lay26 rfl rfl rfl (fun h1 => ?_) (fun h1 => ?_)
  rotate_left
  · refine v_move rfl ?_
    refine v_guard_off rfl rfl rfl ?_
    refine v_guard_off rfl rfl rfl ?_
    refine v_pick_f (v := .v (.bool false)) rfl rfl ?_
    refine v_move rfl ?_
    refine v_guard_off rfl rfl rfl ?_
    refine v_guard_off rfl rfl rfl ?_
    refine v_guard_off rfl rfl rfl ?_
    refine v_guard_off rfl rfl rfl ?_
    refine v_pick_f (v := .v (.bool false)) rfl rfl ?_
    refine v_assign rfl ?_
    refine v_nil ?_
    refine q_n ?_
    refine w_ret ?_
    refine r_r rfl ?_
    exact a_b ⟨fun h => (by cases h), fun h => absurd (h1.symm.trans (ge_of_amt hb (amtB_some.1 h))) (by decide)⟩
  refine v_move rfl ?_
  refine v_guard_on rfl rfl ?_
  refine v_move rfl ?_
  refine v_guard_on rfl rfl ?_
  refine v_callb (cFinI _) rfl rfl (.cons vw_f .nil) (fun h2 => ?_) (fun h2 => ?_)
  rotate_left
  · refine v_pick_t rfl rfl ?_
    refine v_move rfl ?_
    refine v_guard_off rfl rfl rfl ?_
    refine v_guard_off rfl rfl rfl ?_
    refine v_guard_off rfl rfl rfl ?_
    refine v_guard_off rfl rfl rfl ?_
    refine v_pick_f (v := .v (.bool false)) rfl rfl ?_
    refine v_assign rfl ?_
    refine v_nil ?_
    refine q_n ?_
    refine w_ret ?_
    refine r_r rfl ?_
    exact a_b ⟨fun h => (by cases h), fun h => absurd (amtB_some.1 h).1 h2⟩
  refine v_pick_t rfl rfl ?_
  refine v_move rfl ?_
  refine v_guard_on rfl rfl ?_
  refine v_move rfl ?_
  refine v_guard_on rfl rfl ?_
  refine v_conv_ff _ lay26 lay83 rfl (hw) ?_
  refine v_guard_on rfl rfl ?_
  refine v_callb (cSgb _) rfl rfl (.cons vw_f .nil) (fun h3 => ?_) (fun h3 => ?_)
  · refine v_guard_on rfl rfl ?_
    refine v_not false rfl rfl ?_
    refine v_pick_t rfl rfl ?_
    refine v_assign rfl ?_
    refine v_nil ?_
    refine q_n ?_
    refine w_ret ?_
    refine r_r rfl ?_
    exact a_b ⟨fun h => (by cases h), fun h => absurd (amtB_some.1 h) ((sign_amt hb hw h2).1 h3)⟩
  refine v_guard_on rfl rfl ?_
  refine v_not true rfl rfl ?_
  refine v_pick_t rfl rfl ?_
  refine v_assign rfl ?_
  refine v_nil ?_
  refine q_n ?_
  refine w_ret ?_
  refine r_r rfl ?_
  exact a_b ⟨fun _ => amtB_some.2 (Decidable.of_not_not fun h => h3 ((sign_amt hb hw h2).2 h)), fun _ => rfl⟩
theorem cAmIn : PureC X 71 [.c (.f .f32 none)] (cB (decide (amtB none = true))) := by
  refine PureC.of_body (drawD_ok X) (fun _ _ => Go.Proofs.Tryz.call71 _ _) Go.Proofs.Tryz.func71 rfl (n := 15) rfl ?_
  refine w_seq ?_
  refine w_reg rfl ?_
  refine v_assign (c := .v (.bool false)) rfl ?_
  refine v_nil ?_
  refine q_n ?_
  refine w_seq ?_
  refine w_reg rfl ?_
  refine v_move rfl ?_
  refine v_binb lay26 rfl rfl rfl (fun h1 => ?_) (fun h1 => ?_)
  · exact absurd h1 (by decide)
  refine v_move rfl ?_
  refine v_guard_off rfl rfl rfl ?_
  refine v_guard_off rfl rfl rfl ?_
  refine v_pick_f (v := .v (.bool false)) rfl rfl ?_
  refine v_move rfl ?_
  refine v_guard_off rfl rfl rfl ?_
  refine v_guard_off rfl rfl rfl ?_
  refine v_guard_off rfl rfl rfl ?_
  refine v_guard_off rfl rfl rfl ?_
  refine v_pick_f (v := .v (.bool false)) rfl rfl ?_
  refine v_assign rfl ?_
  refine v_nil ?_
  refine q_n ?_
  refine w_ret ?_
  refine r_r rfl ?_
  exact a_b ⟨fun h => (by cases h), fun h => (by cases h)⟩
theorem cAmI (x : Option Nat) (hx : Sg x) : PureC X 71 [.c (.f .f32 x)] (cB (decide (amtB x = true))) := by
  cases x with
  | none => exact cAmIn
  | some b =>
    obtain ⟨w, hw, -⟩ := wide_some hx.1
    exact cAmIs b w (hx.2 b rfl) hw
theorem cShS (x : Option Nat) : PureC X 114 [.c (.f .f32 x)] (cB (decide (shr x))) := by
  refine PureC.of_body (drawD_ok X) (fun _ _ => Go.Proofs.Tryz.call114 _ _) Go.Proofs.Tryz.func114 rfl (n := 9) rfl ?_
  refine w_seq ?_
  refine w_reg rfl ?_
  refine v_assign (c := .v (.bool false)) rfl ?_
  refine v_nil ?_
  refine q_n ?_
  refine w_seq ?_
  refine w_reg rfl ?_
  refine v_move rfl ?_
  refine v_callb (cAmS _) rfl rfl (.cons vw_f .nil) (fun h1 => ?_) (fun h1 => ?_)
  rotate_left
  · refine v_move rfl ?_
    refine v_guard_off rfl rfl rfl ?_
    refine v_guard_off rfl rfl rfl ?_
    refine v_pick_f (v := .v (.bool false)) rfl rfl ?_
    refine v_assign rfl ?_
    refine v_nil ?_
    refine q_n ?_
    refine w_ret ?_
    refine r_r rfl ?_
    exact a_b (by unfold shr; simp_all)
  refine v_move rfl ?_
  refine v_guard_on rfl rfl ?_
  refine v_move rfl ?_
  refine v_guard_on rfl rfl ?_
  refine v_binb lay26 rfl rfl rfl (fun h2 => ?_) (fun h2 => ?_)
  · replace h2 : fle x 1065353216 := h2
    refine v_pick_t rfl rfl ?_
    refine v_assign rfl ?_
    refine v_nil ?_
    refine q_n ?_
    refine w_ret ?_
    refine r_r rfl ?_
    exact a_b (by unfold shr; simp_all)
  replace h2 : ¬ fle x 1065353216 := fun h => absurd (h2.symm.trans h) (by decide)
  refine v_pick_t rfl rfl ?_
  refine v_assign rfl ?_
  refine v_nil ?_
  refine q_n ?_
  refine w_ret ?_
  refine r_r rfl ?_
  exact a_b (by unfold shr; simp_all)
theorem cShI (x : Option Nat) (hx : Sg x) : PureC X 145 [.c (.f .f32 x)] (cB (decide (shr x))) := by
  refine PureC.of_body (drawD_ok X) (fun _ _ => Go.Proofs.Tryz.call145 _ _) Go.Proofs.Tryz.func145 rfl (n := 9) rfl ?_
  refine w_seq ?_
  refine w_reg rfl ?_
  refine v_assign (c := .v (.bool false)) rfl ?_
  refine v_nil ?_
  refine q_n ?_
  refine w_seq ?_
  refine w_reg rfl ?_
  refine v_move rfl ?_
  refine v_callb (cAmI _ (by assumption)) rfl rfl (.cons vw_f .nil) (fun h1 => ?_) (fun h1 => ?_)
  rotate_left
  · refine v_move rfl ?_
    refine v_guard_off rfl rfl rfl ?_
    refine v_guard_off rfl rfl rfl ?_
    refine v_pick_f (v := .v (.bool false)) rfl rfl ?_
    refine v_assign rfl ?_
    refine v_nil ?_
    refine q_n ?_
    refine w_ret ?_
    refine r_r rfl ?_
    exact a_b (by unfold shr; simp_all)
  refine v_move rfl ?_
  refine v_guard_on rfl rfl ?_
  refine v_move rfl ?_
  refine v_guard_on rfl rfl ?_
  refine v_binb lay26 rfl rfl rfl (fun h2 => ?_) (fun h2 => ?_)
  · replace h2 : fle x 1065353216 := h2
    refine v_pick_t rfl rfl ?_
    refine v_assign rfl ?_
    refine v_nil ?_
    refine q_n ?_
    refine w_ret ?_
    refine r_r rfl ?_
    exact a_b (by unfold shr; simp_all)
  replace h2 : ¬ fle x 1065353216 := fun h => absurd (h2.symm.trans h) (by decide)
  refine v_pick_t rfl rfl ?_
  refine v_assign rfl ?_
  refine v_nil ?_
  refine q_n ?_
  refine w_ret ?_
  refine r_r rfl ?_
  exact a_b (by unfold shr; simp_all)
theorem cRdS (r : Rd) (hr : rW r) : PureC X 56 [.c (.vw false (rdc r) 0)] (cB (decide (roadOk r))) := by
  refine PureC.of_body (drawD_ok X) (fun _ _ => Go.Proofs.Tryz.call56 _ _) Go.Proofs.Tryz.func56 rfl (n := 56) rfl ?_
  refine w_seq ?_
  refine w_reg rfl ?_
  refine v_assign (c := .v (.bool false)) rfl ?_
  refine v_nil ?_
  refine q_n ?_
  refine w_seq ?_
  refine w_seq ?_
  refine w_reg rfl ?_
  refine v_assign (c := .v (.int .i64 0)) rfl ?_
  refine v_nil ?_
  refine q_n ?_
  refine w_block ?_
  refine w_loop (fun k sl H => ∃ i : Nat, k = 16 - i ∧ i ≤ 16 ∧ (∀ j (hj : j < 16), j < i → shr (r.1 ⟨j, hj⟩)) ∧ sl = sls [(0, .c (.vw false (rdc r) 0)), (3, cI i)] ∧ H = []) ?_ ?_
  · refine ⟨_, _, _, ?_, 0, rfl, Nat.zero_le _, fun j hj h => by omega, rfl, rfl⟩
    exact turn0 ⟨tr_vw, tr_v, trivial⟩
  rintro k sl H ⟨i, rfl, hi, hp, rfl, rfl⟩
  refine w_seq ?_
  refine w_seq ?_
  refine w_reg rfl ?_
  refine v_move rfl ?_
  refine v_lss lay3 rfl rfl (fun h1 => ?_) (fun h1 => ?_)
  · have hi1 : i < 16 := by omega
    refine v_nil ?_
    refine q_n ?_
    refine w_t rfl ?_
    refine w_skip ?_
    refine q_n ?_
    refine w_seq ?_
    refine w_block ?_
    refine w_seq ?_
    refine w_reg rfl ?_
    refine v_move rfl ?_
    refine v_move rfl ?_
    refine v_nil_vw rfl ?_
    refine v_fa_vw (off' := 0) lay61 rfl rfl rfl ?_
    refine v_idx_av_e (k := 1) (i) lay59 lay26 rfl rfl rfl (rfl) (hi1) ?_
    refine v_load_vw_e (.c (.f .f32 (r.1 ⟨i, hi1⟩))) lay26 rfl (by show 0 + i * 1 + 1 ≤ 19; omega) (rd_ld7 r hi1) ?_
    refine v_callb (cShS _) rfl rfl (.cons vw_f .nil) (fun h2 => ?_) (fun h2 => ?_)
    rotate_left
    · have hsh := h2
      refine v_not true rfl rfl ?_
      refine v_nil ?_
      refine q_n ?_
      refine w_t rfl ?_
      refine w_seq ?_
      refine w_reg rfl ?_
      refine v_assign (c := .v (.bool false)) rfl ?_
      refine v_nil ?_
      refine q_n ?_
      refine w_ret (q_br (q_r (q_r (q_br (q_r ?_)))))
      refine r_r rfl ?_
      exact a_b (by simp only [Bool.false_eq_true, false_iff]; exact road_i hsh)
    have hsh := h2
    refine v_not false rfl rfl ?_
    refine v_nil ?_
    refine q_n ?_
    refine w_f rfl ?_
    refine w_skip ?_
    refine q_bn ?_
    refine q_n ?_
    refine w_reg rfl ?_
    refine v_move rfl ?_
    refine v_add lay3 rfl rfl (i64r (by omega)) ?_
    refine v_assign rfl ?_
    refine v_nil ?_
    refine q_n ?_
    refine ⟨_, _, _, ?_, ⟨i + 1, rfl, by omega, fun j hj h => ?_, rfl, rfl⟩, by omega⟩
    · exact turn0 ⟨tr_vw, tr_v, trivial⟩
    · rcases Nat.lt_or_eq_of_le (Nat.le_of_lt_succ h) with h | rfl
      · exact hp j hj h
      · exact hsh
  have hall : ∀ i : Fin 16, shr (r.1 i) := fun i => hp i.val i.isLt (by omega)
  refine v_nil ?_
  refine q_n ?_
  refine w_f rfl ?_
  refine w_exit ?_
  refine q_e ?_
  refine q_e ?_
  refine q_hit ?_
  refine q_n ?_
  refine w_seq ?_
  refine w_reg rfl ?_
  refine v_move rfl ?_
  refine v_nil_vw rfl ?_
  refine v_fa_vw (off' := 16) lay61 rfl rfl rfl ?_
  refine v_load_vw (.c (.f _ _)) lay26 rfl rfl rfl ?_
  refine v_callb (cShS _) rfl rfl (.cons vw_f .nil) (fun h3 => ?_) (fun h3 => ?_)
  rotate_left
  · refine v_move rfl ?_
    refine v_guard_off rfl rfl rfl ?_
    refine v_guard_off rfl rfl rfl ?_
    refine v_guard_off rfl rfl rfl ?_
    refine v_guard_off rfl rfl rfl ?_
    refine v_guard_off rfl rfl rfl ?_
    refine v_pick_f (v := .v (.bool false)) rfl rfl ?_
    refine v_move rfl ?_
    refine v_guard_off rfl rfl rfl ?_
    refine v_guard_off rfl rfl rfl ?_
    refine v_guard_off rfl rfl rfl ?_
    refine v_guard_off rfl rfl rfl ?_
    refine v_guard_off rfl rfl rfl ?_
    refine v_pick_f (v := .v (.bool false)) rfl rfl ?_
    refine v_move rfl ?_
    refine v_guard_off rfl rfl rfl ?_
    refine v_guard_off rfl rfl rfl ?_
    refine v_guard_off rfl rfl rfl ?_
    refine v_guard_off rfl rfl rfl ?_
    refine v_guard_off rfl rfl rfl ?_
    refine v_pick_f (v := .v (.bool false)) rfl rfl ?_
    refine v_move rfl ?_
    refine v_guard_off rfl rfl rfl ?_
    refine v_guard_off rfl rfl rfl ?_
    refine v_guard_off rfl rfl rfl ?_
    refine v_guard_off rfl rfl rfl ?_
    refine v_guard_off rfl rfl rfl ?_
    refine v_pick_f (v := .v (.bool false)) rfl rfl ?_
    refine v_move rfl ?_
    refine v_guard_off rfl rfl rfl ?_
    refine v_guard_off rfl rfl rfl ?_
    refine v_guard_off rfl rfl rfl ?_
    refine v_guard_off rfl rfl rfl ?_
    refine v_guard_off rfl rfl rfl ?_
    refine v_pick_f (v := .v (.bool false)) rfl rfl ?_
    refine v_assign rfl ?_
    refine v_nil ?_
    refine q_n ?_
    refine w_ret ?_
    refine r_r rfl ?_
    exact a_b (by unfold roadOk; simp_all)
  refine v_move rfl ?_
  refine v_guard_on rfl rfl ?_
  refine v_move rfl ?_
  refine v_guard_on rfl rfl ?_
  refine v_nil_vw rfl ?_
  refine v_guard_on rfl rfl ?_
  refine v_fa_vw (off' := 17) lay61 rfl rfl rfl ?_
  refine v_guard_on rfl rfl ?_
  refine v_load_vw (.c (.f _ _)) lay26 rfl rfl rfl ?_
  refine v_guard_on rfl rfl ?_
  refine v_callb (cShS _) rfl rfl (.cons vw_f .nil) (fun h4 => ?_) (fun h4 => ?_)
  rotate_left
  · refine v_pick_t rfl rfl ?_
    refine v_move rfl ?_
    refine v_guard_off rfl rfl rfl ?_
    refine v_guard_off rfl rfl rfl ?_
    refine v_guard_off rfl rfl rfl ?_
    refine v_guard_off rfl rfl rfl ?_
    refine v_guard_off rfl rfl rfl ?_
    refine v_pick_f (v := .v (.bool false)) rfl rfl ?_
    refine v_move rfl ?_
    refine v_guard_off rfl rfl rfl ?_
    refine v_guard_off rfl rfl rfl ?_
    refine v_guard_off rfl rfl rfl ?_
    refine v_guard_off rfl rfl rfl ?_
    refine v_guard_off rfl rfl rfl ?_
    refine v_pick_f (v := .v (.bool false)) rfl rfl ?_
    refine v_move rfl ?_
    refine v_guard_off rfl rfl rfl ?_
    refine v_guard_off rfl rfl rfl ?_
    refine v_guard_off rfl rfl rfl ?_
    refine v_guard_off rfl rfl rfl ?_
    refine v_guard_off rfl rfl rfl ?_
    refine v_pick_f (v := .v (.bool false)) rfl rfl ?_
    refine v_move rfl ?_
    refine v_guard_off rfl rfl rfl ?_
    refine v_guard_off rfl rfl rfl ?_
    refine v_guard_off rfl rfl rfl ?_
    refine v_guard_off rfl rfl rfl ?_
    refine v_guard_off rfl rfl rfl ?_
    refine v_pick_f (v := .v (.bool false)) rfl rfl ?_
    refine v_assign rfl ?_
    refine v_nil ?_
    refine q_n ?_
    refine w_ret ?_
    refine r_r rfl ?_
    exact a_b (by unfold roadOk; simp_all)
  refine v_pick_t rfl rfl ?_
  refine v_move rfl ?_
  refine v_guard_on rfl rfl ?_
  refine v_move rfl ?_
  refine v_guard_on rfl rfl ?_
  refine v_nil_vw rfl ?_
  refine v_guard_on rfl rfl ?_
  refine v_fa_vw (off' := 16) lay61 rfl rfl rfl ?_
  refine v_guard_on rfl rfl ?_
  refine v_load_vw (.c (.f _ _)) lay26 rfl rfl rfl ?_
  refine v_guard_on rfl rfl ?_
  refine v_binb lay26 rfl rfl rfl (fun h5 => ?_) (fun h5 => ?_)
  rotate_left
  · replace h5 : ¬ fge r.2.1 1015021568 := fun h => absurd (h5.symm.trans h) (by decide)
    refine v_pick_t rfl rfl ?_
    refine v_move rfl ?_
    refine v_guard_off rfl rfl rfl ?_
    refine v_guard_off rfl rfl rfl ?_
    refine v_guard_off rfl rfl rfl ?_
    refine v_guard_off rfl rfl rfl ?_
    refine v_guard_off rfl rfl rfl ?_
    refine v_pick_f (v := .v (.bool false)) rfl rfl ?_
    refine v_move rfl ?_
    refine v_guard_off rfl rfl rfl ?_
    refine v_guard_off rfl rfl rfl ?_
    refine v_guard_off rfl rfl rfl ?_
    refine v_guard_off rfl rfl rfl ?_
    refine v_guard_off rfl rfl rfl ?_
    refine v_pick_f (v := .v (.bool false)) rfl rfl ?_
    refine v_move rfl ?_
    refine v_guard_off rfl rfl rfl ?_
    refine v_guard_off rfl rfl rfl ?_
    refine v_guard_off rfl rfl rfl ?_
    refine v_guard_off rfl rfl rfl ?_
    refine v_guard_off rfl rfl rfl ?_
    refine v_pick_f (v := .v (.bool false)) rfl rfl ?_
    refine v_assign rfl ?_
    refine v_nil ?_
    refine q_n ?_
    refine w_ret ?_
    refine r_r rfl ?_
    exact a_b (by unfold roadOk; simp_all)
  replace h5 : fge r.2.1 1015021568 := h5
  refine v_pick_t rfl rfl ?_
  refine v_move rfl ?_
  refine v_guard_on rfl rfl ?_
  refine v_move rfl ?_
  refine v_guard_on rfl rfl ?_
  refine v_nil_vw rfl ?_
  refine v_guard_on rfl rfl ?_
  refine v_fa_vw (off' := 17) lay61 rfl rfl rfl ?_
  refine v_guard_on rfl rfl ?_
  refine v_load_vw (.c (.f _ _)) lay26 rfl rfl rfl ?_
  refine v_guard_on rfl rfl ?_
  refine v_binb lay26 rfl rfl rfl (fun h6 => ?_) (fun h6 => ?_)
  rotate_left
  · replace h6 : ¬ fge r.2.2.1 1015021568 := fun h => absurd (h6.symm.trans h) (by decide)
    refine v_pick_t rfl rfl ?_
    refine v_move rfl ?_
    refine v_guard_off rfl rfl rfl ?_
    refine v_guard_off rfl rfl rfl ?_
    refine v_guard_off rfl rfl rfl ?_
    refine v_guard_off rfl rfl rfl ?_
    refine v_guard_off rfl rfl rfl ?_
    refine v_pick_f (v := .v (.bool false)) rfl rfl ?_
    refine v_move rfl ?_
    refine v_guard_off rfl rfl rfl ?_
    refine v_guard_off rfl rfl rfl ?_
    refine v_guard_off rfl rfl rfl ?_
    refine v_guard_off rfl rfl rfl ?_
    refine v_guard_off rfl rfl rfl ?_
    refine v_pick_f (v := .v (.bool false)) rfl rfl ?_
    refine v_assign rfl ?_
    refine v_nil ?_
    refine q_n ?_
    refine w_ret ?_
    refine r_r rfl ?_
    exact a_b (by unfold roadOk; simp_all)
  replace h6 : fge r.2.2.1 1015021568 := h6
  refine v_pick_t rfl rfl ?_
  refine v_move rfl ?_
  refine v_guard_on rfl rfl ?_
  refine v_move rfl ?_
  refine v_guard_on rfl rfl ?_
  refine v_nil_vw rfl ?_
  refine v_guard_on rfl rfl ?_
  refine v_fa_vw (off' := 18) lay61 rfl rfl rfl ?_
  refine v_guard_on rfl rfl ?_
  refine v_load_vw (.c (.f _ _)) lay26 rfl rfl rfl ?_
  refine v_guard_on rfl rfl ?_
  refine v_binb lay26 rfl rfl rfl (fun h7 => ?_) (fun h7 => ?_)
  rotate_left
  · replace h7 : ¬ fge r.2.2.2 1048576000 := fun h => absurd (h7.symm.trans h) (by decide)
    refine v_pick_t rfl rfl ?_
    refine v_move rfl ?_
    refine v_guard_off rfl rfl rfl ?_
    refine v_guard_off rfl rfl rfl ?_
    refine v_guard_off rfl rfl rfl ?_
    refine v_guard_off rfl rfl rfl ?_
    refine v_guard_off rfl rfl rfl ?_
    refine v_pick_f (v := .v (.bool false)) rfl rfl ?_
    refine v_assign rfl ?_
    refine v_nil ?_
    refine q_n ?_
    refine w_ret ?_
    refine r_r rfl ?_
    exact a_b (by unfold roadOk; simp_all)
  replace h7 : fge r.2.2.2 1048576000 := h7
  refine v_pick_t rfl rfl ?_
  refine v_move rfl ?_
  refine v_guard_on rfl rfl ?_
  refine v_move rfl ?_
  refine v_guard_on rfl rfl ?_
  refine v_nil_vw rfl ?_
  refine v_guard_on rfl rfl ?_
  refine v_fa_vw (off' := 18) lay61 rfl rfl rfl ?_
  refine v_guard_on rfl rfl ?_
  refine v_load_vw (.c (.f _ _)) lay26 rfl rfl rfl ?_
  refine v_guard_on rfl rfl ?_
  refine v_binb lay26 rfl rfl rfl (fun h8 => ?_) (fun h8 => ?_)
  · replace h8 : fle r.2.2.2 1090519040 := h8
    refine v_pick_t rfl rfl ?_
    refine v_assign rfl ?_
    refine v_nil ?_
    refine q_n ?_
    refine w_ret ?_
    refine r_r rfl ?_
    exact a_b (by unfold roadOk; simp_all)
  replace h8 : ¬ fle r.2.2.2 1090519040 := fun h => absurd (h8.symm.trans h) (by decide)
  refine v_pick_t rfl rfl ?_
  refine v_assign rfl ?_
  refine v_nil ?_
  refine q_n ?_
  refine w_ret ?_
  refine r_r rfl ?_
  exact a_b (by unfold roadOk; simp_all)
theorem cRdI (r : Rd) (hr : rW r) : PureC X 82 [.agg (rdc r)] (cB (decide (roadOk r))) := by
  refine PureC.of_body (drawD_ok X) (fun _ _ => Go.Proofs.Tryz.call82 _ _) Go.Proofs.Tryz.func82 rfl (n := 47) rfl ?_
  refine w_seq ?_
  refine w_reg rfl ?_
  refine v_box (m := 0) (H' := [_]) lay61 rfl rfl rfl ?_
  refine v_assign (c := .v (.bool false)) rfl ?_
  refine v_nil ?_
  refine q_n ?_
  refine w_seq ?_
  refine w_seq ?_
  refine w_reg rfl ?_
  refine v_fa_pt (off' := 0) lay61 rfl rfl rfl ?_
  refine v_load_pt (.agg [_, _, _, _, _, _, _, _, _, _, _, _, _, _, _, _]) lay59 rfl rfl rfl rfl ?_
  refine v_move (c := .v (.int .i64 0)) rfl ?_
  refine v_nil ?_
  refine q_n ?_
  refine w_block ?_
  refine w_loop (fun k sl H => ∃ i : Nat, k = 16 - i ∧ i ≤ 16 ∧ (∀ j (hj : j < 16), j < i → shr (r.1 ⟨j, hj⟩)) ∧ sl = sls [(1, .c (.pt 0 0)), (6, .agg (cac r.1)), (7, cI i)] ∧ H = [⟨rdc r, 61, true⟩]) ?_ ?_
  · refine ⟨_, _, _, ?_, 0, rfl, Nat.zero_le _, fun j hj h => by omega, rfl, rfl⟩
    exact turn [some 0] rfl rfl rfl ⟨⟨_, rfl, .stay (fun c hc => stays_fz (fz_sc (List.all_eq_true.1 (rdc_sc r) c hc)))⟩, trivial⟩ ⟨tr_pt rfl, tr_agg (.cons tr_f (.cons tr_f (.cons tr_f (.cons tr_f (.cons tr_f (.cons tr_f (.cons tr_f (.cons tr_f (.cons tr_f (.cons tr_f (.cons tr_f (.cons tr_f (.cons tr_f (.cons tr_f (.cons tr_f (.cons tr_f .nil)))))))))))))))), tr_v, trivial⟩
  rintro k sl H ⟨i, rfl, hi, hp, rfl, rfl⟩
  refine w_seq ?_
  refine w_reg rfl ?_
  refine v_lss lay3 rfl rfl (fun h1 => ?_) (fun h1 => ?_)
  · have hi1 : i < 16 := by omega
    refine v_nil ?_
    refine q_n ?_
    refine w_seq ?_
    refine w_t rfl ?_
    refine w_skip ?_
    refine q_n ?_
    refine w_seq ?_
    refine w_block ?_
    refine w_seq ?_
    refine w_reg rfl ?_
    refine v_index_e i (.c (.f .f32 (r.1 ⟨i, hi1⟩))) lay59 lay26 rfl rfl rfl hi1 (by show i * 1 + 1 ≤ 16; omega) (road_x r i hi1) ?_
    refine v_assign rfl ?_
    refine v_nil ?_
    refine q_n ?_
    refine w_seq ?_
    refine w_reg rfl ?_
    refine v_move rfl ?_
    refine v_callb (cShI _ (hr.1 i hi1)) rfl rfl (.cons vw_f .nil) (fun h2 => ?_) (fun h2 => ?_)
    rotate_left
    · have hsh := h2
      refine v_not true rfl rfl ?_
      refine v_nil ?_
      refine q_n ?_
      refine w_t rfl ?_
      refine w_seq ?_
      refine w_reg rfl ?_
      refine v_assign (c := .v (.bool false)) rfl ?_
      refine v_nil ?_
      refine q_n ?_
      refine w_ret (q_br (q_r (q_r (q_br (q_r ?_)))))
      refine r_r rfl ?_
      exact a_b (by simp only [Bool.false_eq_true, false_iff]; exact road_i hsh)
    have hsh := h2
    refine v_not false rfl rfl ?_
    refine v_nil ?_
    refine q_n ?_
    refine w_f rfl ?_
    refine w_skip ?_
    refine q_bn ?_
    refine q_n ?_
    refine w_reg rfl ?_
    refine v_add lay3 rfl rfl (i64r (by omega)) ?_
    refine v_move rfl ?_
    refine v_nil ?_
    refine q_n ?_
    refine ⟨_, _, _, ?_, ⟨i + 1, rfl, by omega, fun j hj h => ?_, rfl, rfl⟩, by omega⟩
    · exact turn [some 0] rfl rfl rfl ⟨⟨_, rfl, .stay (fun c hc => stays_fz (fz_sc (List.all_eq_true.1 (rdc_sc r) c hc)))⟩, trivial⟩ ⟨tr_pt rfl, tr_agg (.cons tr_f (.cons tr_f (.cons tr_f (.cons tr_f (.cons tr_f (.cons tr_f (.cons tr_f (.cons tr_f (.cons tr_f (.cons tr_f (.cons tr_f (.cons tr_f (.cons tr_f (.cons tr_f (.cons tr_f (.cons tr_f .nil)))))))))))))))), tr_v, trivial⟩
    · rcases Nat.lt_or_eq_of_le (Nat.le_of_lt_succ h) with h | rfl
      · exact hp j hj h
      · exact hsh
  have hall : ∀ i : Fin 16, shr (r.1 i) := fun i => hp i.val i.isLt (by omega)
  refine v_nil ?_
  refine q_n ?_
  refine w_seq ?_
  refine w_f rfl ?_
  refine w_exit ?_
  refine q_e ?_
  refine q_e ?_
  refine q_hit ?_
  refine q_n ?_
  refine w_seq ?_
  refine w_reg rfl ?_
  refine v_fa_pt (off' := 16) lay61 rfl rfl rfl ?_
  refine v_load_pt (.c _) lay26 rfl rfl rfl rfl ?_
  refine v_callb (cShI _ hr.2.1) rfl rfl (.cons vw_f .nil) (fun h3 => ?_) (fun h3 => ?_)
  rotate_left
  · refine v_move rfl ?_
    refine v_guard_off rfl rfl rfl ?_
    refine v_guard_off rfl rfl rfl ?_
    refine v_guard_off rfl rfl rfl ?_
    refine v_pick_f (v := .v (.bool false)) rfl rfl ?_
    refine v_move rfl ?_
    refine v_guard_off rfl rfl rfl ?_
    refine v_guard_off rfl rfl rfl ?_
    refine v_guard_off rfl rfl rfl ?_
    refine v_pick_f (v := .v (.bool false)) rfl rfl ?_
    refine v_move rfl ?_
    refine v_guard_off rfl rfl rfl ?_
    refine v_guard_off rfl rfl rfl ?_
    refine v_guard_off rfl rfl rfl ?_
    refine v_pick_f (v := .v (.bool false)) rfl rfl ?_
    refine v_move rfl ?_
    refine v_guard_off rfl rfl rfl ?_
    refine v_guard_off rfl rfl rfl ?_
    refine v_guard_off rfl rfl rfl ?_
    refine v_pick_f (v := .v (.bool false)) rfl rfl ?_
    refine v_move rfl ?_
    refine v_guard_off rfl rfl rfl ?_
    refine v_guard_off rfl rfl rfl ?_
    refine v_guard_off rfl rfl rfl ?_
    refine v_pick_f (v := .v (.bool false)) rfl rfl ?_
    refine v_move rfl ?_
    refine v_guard_off rfl rfl rfl ?_
    refine v_guard_off rfl rfl rfl ?_
    refine v_guard_off rfl rfl rfl ?_
    refine v_pick_f (v := .v (.bool false)) rfl rfl ?_
    refine v_assign rfl ?_
    refine v_nil ?_
    refine q_n ?_
    refine w_ret ?_
    refine r_r rfl ?_
    exact a_b (by simp only [Bool.false_eq_true, false_iff]; exact fun ho => h3 ho.2.1)
  refine v_move rfl ?_
  refine v_guard_on rfl rfl ?_
  refine v_fa_pt (off' := 17) lay61 rfl rfl rfl ?_
  refine v_guard_on rfl rfl ?_
  refine v_load_pt (.c _) lay26 rfl rfl rfl rfl ?_
  refine v_guard_on rfl rfl ?_
  refine v_callb (cShI _ hr.2.2.1) rfl rfl (.cons vw_f .nil) (fun h4 => ?_) (fun h4 => ?_)
  rotate_left
  · refine v_pick_t rfl rfl ?_
    refine v_move rfl ?_
    refine v_guard_off rfl rfl rfl ?_
    refine v_guard_off rfl rfl rfl ?_
    refine v_guard_off rfl rfl rfl ?_
    refine v_pick_f (v := .v (.bool false)) rfl rfl ?_
    refine v_move rfl ?_
    refine v_guard_off rfl rfl rfl ?_
    refine v_guard_off rfl rfl rfl ?_
    refine v_guard_off rfl rfl rfl ?_
    refine v_pick_f (v := .v (.bool false)) rfl rfl ?_
    refine v_move rfl ?_
    refine v_guard_off rfl rfl rfl ?_
    refine v_guard_off rfl rfl rfl ?_
    refine v_guard_off rfl rfl rfl ?_
    refine v_pick_f (v := .v (.bool false)) rfl rfl ?_
    refine v_move rfl ?_
    refine v_guard_off rfl rfl rfl ?_
    refine v_guard_off rfl rfl rfl ?_
    refine v_guard_off rfl rfl rfl ?_
    refine v_pick_f (v := .v (.bool false)) rfl rfl ?_
    refine v_move rfl ?_
    refine v_guard_off rfl rfl rfl ?_
    refine v_guard_off rfl rfl rfl ?_
    refine v_guard_off rfl rfl rfl ?_
    refine v_pick_f (v := .v (.bool false)) rfl rfl ?_
    refine v_assign rfl ?_
    refine v_nil ?_
    refine q_n ?_
    refine w_ret ?_
    refine r_r rfl ?_
    exact a_b (by simp only [Bool.false_eq_true, false_iff]; exact fun ho => h4 ho.2.2.1)
  refine v_pick_t rfl rfl ?_
  refine v_move rfl ?_
  refine v_guard_on rfl rfl ?_
  refine v_fa_pt (off' := 16) lay61 rfl rfl rfl ?_
  refine v_guard_on rfl rfl ?_
  refine v_load_pt (.c _) lay26 rfl rfl rfl rfl ?_
  refine v_guard_on rfl rfl ?_
  refine v_binb lay26 rfl rfl rfl (fun h5 => ?_) (fun h5 => ?_)
  rotate_left
  · replace h5 : ¬ fge r.2.1 1015021568 := fun h => absurd (h5.symm.trans h) (by decide)
    refine v_pick_t rfl rfl ?_
    refine v_move rfl ?_
    refine v_guard_off rfl rfl rfl ?_
    refine v_guard_off rfl rfl rfl ?_
    refine v_guard_off rfl rfl rfl ?_
    refine v_pick_f (v := .v (.bool false)) rfl rfl ?_
    refine v_move rfl ?_
    refine v_guard_off rfl rfl rfl ?_
    refine v_guard_off rfl rfl rfl ?_
    refine v_guard_off rfl rfl rfl ?_
    refine v_pick_f (v := .v (.bool false)) rfl rfl ?_
    refine v_move rfl ?_
    refine v_guard_off rfl rfl rfl ?_
    refine v_guard_off rfl rfl rfl ?_
    refine v_guard_off rfl rfl rfl ?_
    refine v_pick_f (v := .v (.bool false)) rfl rfl ?_
    refine v_move rfl ?_
    refine v_guard_off rfl rfl rfl ?_
    refine v_guard_off rfl rfl rfl ?_
    refine v_guard_off rfl rfl rfl ?_
    refine v_pick_f (v := .v (.bool false)) rfl rfl ?_
    refine v_assign rfl ?_
    refine v_nil ?_
    refine q_n ?_
    refine w_ret ?_
    refine r_r rfl ?_
    exact a_b (by simp only [Bool.false_eq_true, false_iff]; exact fun ho => h5 ho.2.2.2.1)
  replace h5 : fge r.2.1 1015021568 := h5
  refine v_pick_t rfl rfl ?_
  refine v_move rfl ?_
  refine v_guard_on rfl rfl ?_
  refine v_fa_pt (off' := 17) lay61 rfl rfl rfl ?_
  refine v_guard_on rfl rfl ?_
  refine v_load_pt (.c _) lay26 rfl rfl rfl rfl ?_
  refine v_guard_on rfl rfl ?_
  refine v_binb lay26 rfl rfl rfl (fun h6 => ?_) (fun h6 => ?_)
  rotate_left
  · replace h6 : ¬ fge r.2.2.1 1015021568 := fun h => absurd (h6.symm.trans h) (by decide)
    refine v_pick_t rfl rfl ?_
    refine v_move rfl ?_
    refine v_guard_off rfl rfl rfl ?_
    refine v_guard_off rfl rfl rfl ?_
    refine v_guard_off rfl rfl rfl ?_
    refine v_pick_f (v := .v (.bool false)) rfl rfl ?_
    refine v_move rfl ?_
    refine v_guard_off rfl rfl rfl ?_
    refine v_guard_off rfl rfl rfl ?_
    refine v_guard_off rfl rfl rfl ?_
    refine v_pick_f (v := .v (.bool false)) rfl rfl ?_
    refine v_move rfl ?_
    refine v_guard_off rfl rfl rfl ?_
    refine v_guard_off rfl rfl rfl ?_
    refine v_guard_off rfl rfl rfl ?_
    refine v_pick_f (v := .v (.bool false)) rfl rfl ?_
    refine v_assign rfl ?_
    refine v_nil ?_
    refine q_n ?_
    refine w_ret ?_
    refine r_r rfl ?_
    exact a_b (by simp only [Bool.false_eq_true, false_iff]; exact fun ho => h6 ho.2.2.2.2.1)
  replace h6 : fge r.2.2.1 1015021568 := h6
  refine v_pick_t rfl rfl ?_
  refine v_move rfl ?_
  refine v_guard_on rfl rfl ?_
  refine v_fa_pt (off' := 18) lay61 rfl rfl rfl ?_
  refine v_guard_on rfl rfl ?_
  refine v_load_pt (.c _) lay26 rfl rfl rfl rfl ?_
  refine v_guard_on rfl rfl ?_
  refine v_callb (cAmI _ hr.2.2.2) rfl rfl (.cons vw_f .nil) (fun h7 => ?_) (fun h7 => ?_)
  rotate_left
  · refine v_pick_t rfl rfl ?_
    refine v_move rfl ?_
    refine v_guard_off rfl rfl rfl ?_
    refine v_guard_off rfl rfl rfl ?_
    refine v_guard_off rfl rfl rfl ?_
    refine v_pick_f (v := .v (.bool false)) rfl rfl ?_
    refine v_move rfl ?_
    refine v_guard_off rfl rfl rfl ?_
    refine v_guard_off rfl rfl rfl ?_
    refine v_guard_off rfl rfl rfl ?_
    refine v_pick_f (v := .v (.bool false)) rfl rfl ?_
    refine v_assign rfl ?_
    refine v_nil ?_
    refine q_n ?_
    refine w_ret ?_
    refine r_r rfl ?_
    exact a_b (by simp only [Bool.false_eq_true, false_iff]; exact fun ho => h7 (amt_of hr.2.2.2 ho.2.2.2.2.2.1 ho.2.2.2.2.2.2))
  refine v_pick_t rfl rfl ?_
  refine v_move rfl ?_
  refine v_guard_on rfl rfl ?_
  refine v_fa_pt (off' := 18) lay61 rfl rfl rfl ?_
  refine v_guard_on rfl rfl ?_
  refine v_load_pt (.c _) lay26 rfl rfl rfl rfl ?_
  refine v_guard_on rfl rfl ?_
  refine v_binb lay26 rfl rfl rfl (fun h8 => ?_) (fun h8 => ?_)
  rotate_left
  · replace h8 : ¬ fge r.2.2.2 1048576000 := fun h => absurd (h8.symm.trans h) (by decide)
    refine v_pick_t rfl rfl ?_
    refine v_move rfl ?_
    refine v_guard_off rfl rfl rfl ?_
    refine v_guard_off rfl rfl rfl ?_
    refine v_guard_off rfl rfl rfl ?_
    refine v_pick_f (v := .v (.bool false)) rfl rfl ?_
    refine v_assign rfl ?_
    refine v_nil ?_
    refine q_n ?_
    refine w_ret ?_
    refine r_r rfl ?_
    exact a_b (by simp only [Bool.false_eq_true, false_iff]; exact fun ho => h8 ho.2.2.2.2.2.1)
  replace h8 : fge r.2.2.2 1048576000 := h8
  refine v_pick_t rfl rfl ?_
  refine v_move rfl ?_
  refine v_guard_on rfl rfl ?_
  refine v_fa_pt (off' := 18) lay61 rfl rfl rfl ?_
  refine v_guard_on rfl rfl ?_
  refine v_load_pt (.c _) lay26 rfl rfl rfl rfl ?_
  refine v_guard_on rfl rfl ?_
  refine v_binb lay26 rfl rfl rfl (fun h9 => ?_) (fun h9 => ?_)
  · replace h9 : fle r.2.2.2 1090519040 := h9
    refine v_pick_t rfl rfl ?_
    refine v_assign rfl ?_
    refine v_nil ?_
    refine q_n ?_
    refine w_ret ?_
    refine r_r rfl ?_
    exact a_b (by simp only [true_iff]; exact ⟨hall, h3, h4, h5, h6, h8, h9⟩)
  replace h9 : ¬ fle r.2.2.2 1090519040 := fun h => absurd (h9.symm.trans h) (by decide)
  refine v_pick_t rfl rfl ?_
  refine v_assign rfl ?_
  refine v_nil ?_
  refine q_n ?_
  refine w_ret ?_
  refine r_r rfl ?_
  exact a_b (by simp only [Bool.false_eq_true, false_iff]; exact fun ho => h9 ho.2.2.2.2.2.2)
end Go.VL
