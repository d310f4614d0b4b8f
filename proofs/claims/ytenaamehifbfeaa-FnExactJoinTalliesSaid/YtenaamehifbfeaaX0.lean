/- The shapes of the types, and what is known of the program. -/
import Derived.Test.YtenaamehifbfeaaV24
import Derived.Test.YtenaamehifbfeaaProg
set_option maxRecDepth 20000
namespace Go.VL
open Go.RowKit
def layT : List (TypeId × Lay) := [
  (1, ⟨.other, 1, 8, [.nilFunc]⟩),
  (2, ⟨.int .i64, 1, 8, [.int .i64 0]⟩),
  (3, ⟨.int .i64, 1, 8, [.int .i64 0]⟩),
  (4, ⟨.bool, 1, 1, [.bool false]⟩),
  (5, ⟨.int .u8, 1, 1, [.int .u8 0]⟩),
  (6, ⟨.int .u8, 1, 1, [.int .u8 0]⟩),
  (7, ⟨.struct [(2, 0), (3, 1), (4, 2), (6, 3)], 4, 24, [.int .i64 0, .int .i64 0, .bool false, .int .u8 0]⟩),
  (8, ⟨.struct [(2, 0), (3, 1), (4, 2), (6, 3)], 4, 24, [.int .i64 0, .int .i64 0, .bool false, .int .u8 0]⟩),
  (9, ⟨.string, 1, 16, [.string ⟨#[]⟩]⟩),
  (10, ⟨.string, 1, 16, [.string ⟨#[]⟩]⟩),
  (11, ⟨.string, 1, 16, [.string ⟨#[]⟩]⟩),
  (12, ⟨.int .u64, 1, 8, [.int .u64 0]⟩),
  (13, ⟨.struct [(9, 0), (12, 1)], 2, 24, [.string ⟨#[]⟩, .int .u64 0]⟩),
  (14, ⟨.struct [(9, 0), (12, 1)], 2, 24, [.string ⟨#[]⟩, .int .u64 0]⟩),
  (15, ⟨.other, 1, 8, [.pointer none]⟩),
  (16, ⟨.other, 1, 8, [.pointer none]⟩),
  (17, ⟨.other, 1, 8, [.pointer none]⟩),
  (18, ⟨.struct [(17, 0)], 1, 8, [.pointer none]⟩),
  (19, ⟨.struct [(17, 0)], 1, 8, [.pointer none]⟩),
  (21, ⟨.int .i32, 1, 4, [.int .i32 0]⟩),
  (22, ⟨.float .f32, 1, 4, [.float .f32 0]⟩),
  (23, ⟨.int .i16, 1, 2, [.int .i16 0]⟩),
  (24, ⟨.struct [(2, 0), (22, 1), (23, 2), (22, 3), (2, 4)], 5, 32, [.int .i64 0, .float .f32 0, .int .i16 0, .float .f32 0, .int .i64 0]⟩),
  (25, ⟨.struct [(2, 0), (22, 1), (23, 2), (22, 3), (2, 4)], 5, 32, [.int .i64 0, .float .f32 0, .int .i16 0, .float .f32 0, .int .i64 0]⟩),
  (26, ⟨.struct [(2, 0), (23, 1), (23, 2)], 3, 16, [.int .i64 0, .int .i16 0, .int .i16 0]⟩),
  (27, ⟨.struct [(2, 0), (23, 1), (23, 2)], 3, 16, [.int .i64 0, .int .i16 0, .int .i16 0]⟩),
  (28, ⟨.struct [(2, 0), (22, 1), (23, 2), (22, 3), (2, 4)], 5, 32, [.int .i64 0, .float .f32 0, .int .i16 0, .float .f32 0, .int .i64 0]⟩),
  (30, ⟨.other, 1, 8, [.nilFunc]⟩),
  (31, ⟨.other, 1, 8, [.nilFunc]⟩),
  (32, ⟨.other, 1, 8, [.nilFunc]⟩),
  (33, ⟨.other, 1, 8, [.nilFunc]⟩),
  (34, ⟨.other, 1, 8, [.nilFunc]⟩),
  (35, ⟨.slice 88, 1, 24, [.slice none 0 0]⟩),
  (36, ⟨.other, 1, 8, [.nilFunc]⟩),
  (37, ⟨.slice 22, 1, 24, [.slice none 0 0]⟩),
  (39, ⟨.other, 1, 8, [.nilFunc]⟩),
  (40, ⟨.slice 27, 1, 24, [.slice none 0 0]⟩),
  (41, ⟨.other, 1, 8, [.nilFunc]⟩),
  (42, ⟨.other, 1, 8, [.nilFunc]⟩),
  (43, ⟨.other, 1, 8, [.nilFunc]⟩),
  (44, ⟨.other, 1, 8, [.nilFunc]⟩),
  (45, ⟨.other, 1, 8, [.nilFunc]⟩),
  (46, ⟨.other, 1, 8, [.nilFunc]⟩),
  (47, ⟨.slice 5, 1, 24, [.slice none 0 0]⟩),
  (49, ⟨.other, 1, 8, [.nilFunc]⟩),
  (50, ⟨.other, 1, 8, [.nilFunc]⟩),
  (51, ⟨.other, 1, 8, [.nilFunc]⟩),
  (52, ⟨.other, 1, 8, [.nilFunc]⟩),
  (54, ⟨.other, 1, 8, [.nilFunc]⟩),
  (55, ⟨.other, 1, 8, [.nilFunc]⟩),
  (57, ⟨.other, 1, 8, [.nilFunc]⟩),
  (58, ⟨.other, 1, 8, [.nilFunc]⟩),
  (59, ⟨.other, 1, 8, [.nilFunc]⟩),
  (60, ⟨.other, 1, 8, [.nilFunc]⟩),
  (61, ⟨.other, 1, 8, [.nilFunc]⟩),
  (62, ⟨.other, 1, 8, [.nilFunc]⟩),
  (64, ⟨.other, 1, 8, [.nilFunc]⟩),
  (65, ⟨.other, 1, 8, [.nilFunc]⟩),
  (66, ⟨.other, 1, 8, [.nilFunc]⟩),
  (67, ⟨.other, 1, 8, [.nilFunc]⟩),
  (68, ⟨.other, 1, 8, [.nilFunc]⟩),
  (69, ⟨.array 8 4, 8, 8, [.bool false, .bool false, .bool false, .bool false, .bool false, .bool false, .bool false, .bool false]⟩),
  (71, ⟨.other, 1, 8, [.nilFunc]⟩),
  (72, ⟨.other, 1, 8, [.nilFunc]⟩),
  (73, ⟨.other, 1, 8, [.nilFunc]⟩),
  (75, ⟨.other, 1, 8, [.nilFunc]⟩),
  (76, ⟨.other, 1, 8, [.nilFunc]⟩),
  (77, ⟨.other, 1, 8, [.pointer none]⟩),
  (78, ⟨.other, 1, 8, [.nilFunc]⟩),
  (79, ⟨.other, 1, 8, [.nilFunc]⟩),
  (80, ⟨.other, 1, 8, [.nilFunc]⟩),
  (81, ⟨.other, 1, 8, [.nilFunc]⟩),
  (82, ⟨.other, 1, 8, [.nilFunc]⟩),
  (83, ⟨.other, 1, 8, [.nilFunc]⟩),
  (84, ⟨.other, 1, 8, [.nilFunc]⟩),
  (85, ⟨.float .f64, 1, 8, [.float .f64 0]⟩),
  (86, ⟨.other, 1, 8, [.nilFunc]⟩),
  (87, ⟨.other, 1, 8, [.nilFunc]⟩),
  (88, ⟨.struct [(2, 0), (23, 1), (23, 2)], 3, 16, [.int .i64 0, .int .i16 0, .int .i16 0]⟩),
  (89, ⟨.other, 1, 8, [.nilFunc]⟩),
  (90, ⟨.other, 1, 8, [.nilFunc]⟩),
  (91, ⟨.other, 1, 8, [.nilFunc]⟩),
  (92, ⟨.other, 1, 8, [.nilFunc]⟩),
  (94, ⟨.other, 1, 8, [.nilFunc]⟩),
  (95, ⟨.other, 1, 8, [.pointer none]⟩),
  (96, ⟨.other, 1, 8, [.nilFunc]⟩),
  (98, ⟨.other, 1, 8, [.nilFunc]⟩),
  (100, ⟨.other, 1, 8, [.nilFunc]⟩),
  (101, ⟨.other, 1, 8, [.nilFunc]⟩),
  (102, ⟨.other, 1, 8, [.nilFunc]⟩),
  (103, ⟨.other, 1, 8, [.nilFunc]⟩),
  (104, ⟨.other, 1, 8, [.nilFunc]⟩),
  (105, ⟨.other, 1, 8, [.nilFunc]⟩),
  (106, ⟨.other, 1, 8, [.nilFunc]⟩),
  (107, ⟨.other, 1, 8, [.nilFunc]⟩),
  (108, ⟨.other, 1, 8, [.nilFunc]⟩),
  (109, ⟨.slice 23, 1, 24, [.slice none 0 0]⟩),
  (110, ⟨.other, 1, 8, [.nilFunc]⟩),
  (111, ⟨.other, 1, 8, [.nilFunc]⟩),
  (112, ⟨.other, 1, 8, [.pointer none]⟩),
  (113, ⟨.other, 1, 8, [.nilFunc]⟩),
  (114, ⟨.other, 1, 8, [.nilFunc]⟩),
  (115, ⟨.other, 1, 8, [.nilFunc]⟩),
  (116, ⟨.other, 1, 8, [.nilFunc]⟩),
  (117, ⟨.other, 1, 8, [.nilFunc]⟩),
  (118, ⟨.slice 2, 1, 24, [.slice none 0 0]⟩),
  (119, ⟨.other, 1, 8, [.nilFunc]⟩),
  (120, ⟨.other, 1, 8, [.nilFunc]⟩),
  (121, ⟨.other, 1, 8, [.nilFunc]⟩),
  (122, ⟨.int .u32, 1, 4, [.int .u32 0]⟩),
  (123, ⟨.other, 1, 8, [.nilFunc]⟩),
  (124, ⟨.other, 1, 8, [.nilFunc]⟩),
  (125, ⟨.other, 1, 8, [.nilFunc]⟩),
  (126, ⟨.other, 1, 8, [.nilFunc]⟩),
  (127, ⟨.other, 1, 8, [.nilFunc]⟩),
  (128, ⟨.array 3 2, 3, 24, [.int .i64 0, .int .i64 0, .int .i64 0]⟩),
  (129, ⟨.int .u64, 1, 8, [.int .u64 0]⟩),
  (130, ⟨.other, 1, 8, [.nilFunc]⟩),
  (131, ⟨.other, 1, 8, [.nilFunc]⟩),
  (132, ⟨.slice 3, 1, 24, [.slice none 0 0]⟩),
  (133, ⟨.other, 1, 8, [.nilFunc]⟩),
  (134, ⟨.other, 1, 8, [.nilFunc]⟩),
  (135, ⟨.other, 1, 8, [.nilFunc]⟩),
  (136, ⟨.int .u64, 1, 8, [.int .u64 0]⟩),
  (137, ⟨.struct [(47, 0), (3, 1), (136, 2)], 3, 40, [.slice none 0 0, .int .i64 0, .int .u64 0]⟩),
  (138, ⟨.struct [(47, 0), (3, 1), (136, 2)], 3, 40, [.slice none 0 0, .int .i64 0, .int .u64 0]⟩),
  (139, ⟨.other, 1, 8, [.nilFunc]⟩),
  (140, ⟨.other, 1, 8, [.nilFunc]⟩),
  (141, ⟨.slice 47, 1, 24, [.slice none 0 0]⟩),
  (142, ⟨.other, 1, 8, [.nilFunc]⟩),
  (143, ⟨.other, 1, 8, [.nilFunc]⟩),
  (144, ⟨.other, 1, 8, [.nilFunc]⟩),
  (145, ⟨.int .i64, 1, 8, [.int .i64 0]⟩),
  (147, ⟨.other, 1, 8, [.nilFunc]⟩),
  (148, ⟨.other, 1, 8, [.nilFunc]⟩),
  (149, ⟨.other, 1, 8, [.nilFunc]⟩),
  (150, ⟨.other, 1, 8, [.nilFunc]⟩),
  (151, ⟨.other, 1, 8, [.nilFunc]⟩),
  (152, ⟨.other, 1, 8, [.nilFunc]⟩),
  (153, ⟨.other, 1, 8, [.nilFunc]⟩),
  (154, ⟨.other, 1, 8, [.nilFunc]⟩),
  (155, ⟨.int .u64, 1, 8, [.int .u64 0]⟩),
  (156, ⟨.other, 1, 8, [.nilFunc]⟩),
  (157, ⟨.other, 1, 8, [.nilFunc]⟩),
  (158, ⟨.other, 1, 8, [.nilFunc]⟩),
  (159, ⟨.other, 1, 8, [.pointer none]⟩),
  (160, ⟨.other, 1, 8, [.nilFunc]⟩),
  (161, ⟨.other, 1, 8, [.pointer none]⟩),
  (163, ⟨.other, 1, 8, [.nilFunc]⟩),
  (164, ⟨.other, 1, 8, [.nilFunc]⟩),
  (165, ⟨.struct [(17, 0), (17, 1), (17, 2), (9, 3)], 4, 40, [.pointer none, .pointer none, .pointer none, .string ⟨#[]⟩]⟩),
  (166, ⟨.struct [(17, 0), (17, 1), (17, 2), (9, 3)], 4, 40, [.pointer none, .pointer none, .pointer none, .string ⟨#[]⟩]⟩),
  (167, ⟨.array 0 16, 0, 0, []⟩),
  (170, ⟨.other, 1, 8, [.nilFunc]⟩),
  (171, ⟨.int .u8, 1, 1, [.int .u8 0]⟩),
  (172, ⟨.int .u8, 1, 1, [.int .u8 0]⟩),
  (173, ⟨.other, 1, 8, [.nilFunc]⟩),
  (174, ⟨.other, 1, 8, [.pointer none]⟩),
  (175, ⟨.int .i32, 1, 4, [.int .i32 0]⟩),
  (176, ⟨.int .i32, 1, 4, [.int .i32 0]⟩),
  (177, ⟨.struct [(12, 0), (12, 1), (122, 2), (171, 3), (5, 4), (5, 5), (172, 6), (173, 7), (174, 8), (175, 9), (176, 10)], 11, 48, [.int .u64 0, .int .u64 0, .int .u32 0, .int .u8 0, .int .u8 0, .int .u8 0, .int .u8 0, .nilFunc, .pointer none, .int .i32 0, .int .i32 0]⟩),
  (178, ⟨.struct [(12, 0), (12, 1), (122, 2), (171, 3), (5, 4), (5, 5), (172, 6), (173, 7), (174, 8), (175, 9), (176, 10)], 11, 48, [.int .u64 0, .int .u64 0, .int .u32 0, .int .u8 0, .int .u8 0, .int .u8 0, .int .u8 0, .nilFunc, .pointer none, .int .i32 0, .int .i32 0]⟩)]
theorem layT_ok : ∀ p ∈ layT, layOf Go.Proofs.Try.prog p.1 = some p.2 := by
  unfold layT
  refine List.forall_mem_cons.2 ⟨by kernel_rfl, ?_⟩
  refine List.forall_mem_cons.2 ⟨by kernel_rfl, ?_⟩
  refine List.forall_mem_cons.2 ⟨by kernel_rfl, ?_⟩
  refine List.forall_mem_cons.2 ⟨by kernel_rfl, ?_⟩
  refine List.forall_mem_cons.2 ⟨by kernel_rfl, ?_⟩
  refine List.forall_mem_cons.2 ⟨by kernel_rfl, ?_⟩
  refine List.forall_mem_cons.2 ⟨by kernel_rfl, ?_⟩
  refine List.forall_mem_cons.2 ⟨by kernel_rfl, ?_⟩
  refine List.forall_mem_cons.2 ⟨by kernel_rfl, ?_⟩
  refine List.forall_mem_cons.2 ⟨by kernel_rfl, ?_⟩
  refine List.forall_mem_cons.2 ⟨by kernel_rfl, ?_⟩
  refine List.forall_mem_cons.2 ⟨by kernel_rfl, ?_⟩
  refine List.forall_mem_cons.2 ⟨by kernel_rfl, ?_⟩
  refine List.forall_mem_cons.2 ⟨by kernel_rfl, ?_⟩
  refine List.forall_mem_cons.2 ⟨by kernel_rfl, ?_⟩
  refine List.forall_mem_cons.2 ⟨by kernel_rfl, ?_⟩
  refine List.forall_mem_cons.2 ⟨by kernel_rfl, ?_⟩
  refine List.forall_mem_cons.2 ⟨by kernel_rfl, ?_⟩
  refine List.forall_mem_cons.2 ⟨by kernel_rfl, ?_⟩
  refine List.forall_mem_cons.2 ⟨by kernel_rfl, ?_⟩
  refine List.forall_mem_cons.2 ⟨by kernel_rfl, ?_⟩
  refine List.forall_mem_cons.2 ⟨by kernel_rfl, ?_⟩
  refine List.forall_mem_cons.2 ⟨by kernel_rfl, ?_⟩
  refine List.forall_mem_cons.2 ⟨by kernel_rfl, ?_⟩
  refine List.forall_mem_cons.2 ⟨by kernel_rfl, ?_⟩
  refine List.forall_mem_cons.2 ⟨by kernel_rfl, ?_⟩
  refine List.forall_mem_cons.2 ⟨by kernel_rfl, ?_⟩
  refine List.forall_mem_cons.2 ⟨by kernel_rfl, ?_⟩
  refine List.forall_mem_cons.2 ⟨by kernel_rfl, ?_⟩
  refine List.forall_mem_cons.2 ⟨by kernel_rfl, ?_⟩
  refine List.forall_mem_cons.2 ⟨by kernel_rfl, ?_⟩
  refine List.forall_mem_cons.2 ⟨by kernel_rfl, ?_⟩
  refine List.forall_mem_cons.2 ⟨by kernel_rfl, ?_⟩
  refine List.forall_mem_cons.2 ⟨by kernel_rfl, ?_⟩
  refine List.forall_mem_cons.2 ⟨by kernel_rfl, ?_⟩
  refine List.forall_mem_cons.2 ⟨by kernel_rfl, ?_⟩
  refine List.forall_mem_cons.2 ⟨by kernel_rfl, ?_⟩
  refine List.forall_mem_cons.2 ⟨by kernel_rfl, ?_⟩
  refine List.forall_mem_cons.2 ⟨by kernel_rfl, ?_⟩
  refine List.forall_mem_cons.2 ⟨by kernel_rfl, ?_⟩
  refine List.forall_mem_cons.2 ⟨by kernel_rfl, ?_⟩
  refine List.forall_mem_cons.2 ⟨by kernel_rfl, ?_⟩
  refine List.forall_mem_cons.2 ⟨by kernel_rfl, ?_⟩
  refine List.forall_mem_cons.2 ⟨by kernel_rfl, ?_⟩
  refine List.forall_mem_cons.2 ⟨by kernel_rfl, ?_⟩
  refine List.forall_mem_cons.2 ⟨by kernel_rfl, ?_⟩
  refine List.forall_mem_cons.2 ⟨by kernel_rfl, ?_⟩
  refine List.forall_mem_cons.2 ⟨by kernel_rfl, ?_⟩
  refine List.forall_mem_cons.2 ⟨by kernel_rfl, ?_⟩
  refine List.forall_mem_cons.2 ⟨by kernel_rfl, ?_⟩
  refine List.forall_mem_cons.2 ⟨by kernel_rfl, ?_⟩
  refine List.forall_mem_cons.2 ⟨by kernel_rfl, ?_⟩
  refine List.forall_mem_cons.2 ⟨by kernel_rfl, ?_⟩
  refine List.forall_mem_cons.2 ⟨by kernel_rfl, ?_⟩
  refine List.forall_mem_cons.2 ⟨by kernel_rfl, ?_⟩
  refine List.forall_mem_cons.2 ⟨by kernel_rfl, ?_⟩
  refine List.forall_mem_cons.2 ⟨by kernel_rfl, ?_⟩
  refine List.forall_mem_cons.2 ⟨by kernel_rfl, ?_⟩
  refine List.forall_mem_cons.2 ⟨by kernel_rfl, ?_⟩
  refine List.forall_mem_cons.2 ⟨by kernel_rfl, ?_⟩
  refine List.forall_mem_cons.2 ⟨by kernel_rfl, ?_⟩
  refine List.forall_mem_cons.2 ⟨by kernel_rfl, ?_⟩
  refine List.forall_mem_cons.2 ⟨by kernel_rfl, ?_⟩
  refine List.forall_mem_cons.2 ⟨by kernel_rfl, ?_⟩
  refine List.forall_mem_cons.2 ⟨by kernel_rfl, ?_⟩
  refine List.forall_mem_cons.2 ⟨by kernel_rfl, ?_⟩
  refine List.forall_mem_cons.2 ⟨by kernel_rfl, ?_⟩
  refine List.forall_mem_cons.2 ⟨by kernel_rfl, ?_⟩
  refine List.forall_mem_cons.2 ⟨by kernel_rfl, ?_⟩
  refine List.forall_mem_cons.2 ⟨by kernel_rfl, ?_⟩
  refine List.forall_mem_cons.2 ⟨by kernel_rfl, ?_⟩
  refine List.forall_mem_cons.2 ⟨by kernel_rfl, ?_⟩
  refine List.forall_mem_cons.2 ⟨by kernel_rfl, ?_⟩
  refine List.forall_mem_cons.2 ⟨by kernel_rfl, ?_⟩
  refine List.forall_mem_cons.2 ⟨by kernel_rfl, ?_⟩
  refine List.forall_mem_cons.2 ⟨by kernel_rfl, ?_⟩
  refine List.forall_mem_cons.2 ⟨by kernel_rfl, ?_⟩
  refine List.forall_mem_cons.2 ⟨by kernel_rfl, ?_⟩
  refine List.forall_mem_cons.2 ⟨by kernel_rfl, ?_⟩
  refine List.forall_mem_cons.2 ⟨by kernel_rfl, ?_⟩
  refine List.forall_mem_cons.2 ⟨by kernel_rfl, ?_⟩
  refine List.forall_mem_cons.2 ⟨by kernel_rfl, ?_⟩
  refine List.forall_mem_cons.2 ⟨by kernel_rfl, ?_⟩
  refine List.forall_mem_cons.2 ⟨by kernel_rfl, ?_⟩
  refine List.forall_mem_cons.2 ⟨by kernel_rfl, ?_⟩
  refine List.forall_mem_cons.2 ⟨by kernel_rfl, ?_⟩
  refine List.forall_mem_cons.2 ⟨by kernel_rfl, ?_⟩
  refine List.forall_mem_cons.2 ⟨by kernel_rfl, ?_⟩
  refine List.forall_mem_cons.2 ⟨by kernel_rfl, ?_⟩
  refine List.forall_mem_cons.2 ⟨by kernel_rfl, ?_⟩
  refine List.forall_mem_cons.2 ⟨by kernel_rfl, ?_⟩
  refine List.forall_mem_cons.2 ⟨by kernel_rfl, ?_⟩
  refine List.forall_mem_cons.2 ⟨by kernel_rfl, ?_⟩
  refine List.forall_mem_cons.2 ⟨by kernel_rfl, ?_⟩
  refine List.forall_mem_cons.2 ⟨by kernel_rfl, ?_⟩
  refine List.forall_mem_cons.2 ⟨by kernel_rfl, ?_⟩
  refine List.forall_mem_cons.2 ⟨by kernel_rfl, ?_⟩
  refine List.forall_mem_cons.2 ⟨by kernel_rfl, ?_⟩
  refine List.forall_mem_cons.2 ⟨by kernel_rfl, ?_⟩
  refine List.forall_mem_cons.2 ⟨by kernel_rfl, ?_⟩
  refine List.forall_mem_cons.2 ⟨by kernel_rfl, ?_⟩
  refine List.forall_mem_cons.2 ⟨by kernel_rfl, ?_⟩
  refine List.forall_mem_cons.2 ⟨by kernel_rfl, ?_⟩
  refine List.forall_mem_cons.2 ⟨by kernel_rfl, ?_⟩
  refine List.forall_mem_cons.2 ⟨by kernel_rfl, ?_⟩
  refine List.forall_mem_cons.2 ⟨by kernel_rfl, ?_⟩
  refine List.forall_mem_cons.2 ⟨by kernel_rfl, ?_⟩
  refine List.forall_mem_cons.2 ⟨by kernel_rfl, ?_⟩
  refine List.forall_mem_cons.2 ⟨by kernel_rfl, ?_⟩
  refine List.forall_mem_cons.2 ⟨by kernel_rfl, ?_⟩
  refine List.forall_mem_cons.2 ⟨by kernel_rfl, ?_⟩
  refine List.forall_mem_cons.2 ⟨by kernel_rfl, ?_⟩
  refine List.forall_mem_cons.2 ⟨by kernel_rfl, ?_⟩
  refine List.forall_mem_cons.2 ⟨by kernel_rfl, ?_⟩
  refine List.forall_mem_cons.2 ⟨by kernel_rfl, ?_⟩
  refine List.forall_mem_cons.2 ⟨by kernel_rfl, ?_⟩
  refine List.forall_mem_cons.2 ⟨by kernel_rfl, ?_⟩
  refine List.forall_mem_cons.2 ⟨by kernel_rfl, ?_⟩
  refine List.forall_mem_cons.2 ⟨by kernel_rfl, ?_⟩
  refine List.forall_mem_cons.2 ⟨by kernel_rfl, ?_⟩
  refine List.forall_mem_cons.2 ⟨by kernel_rfl, ?_⟩
  refine List.forall_mem_cons.2 ⟨by kernel_rfl, ?_⟩
  refine List.forall_mem_cons.2 ⟨by kernel_rfl, ?_⟩
  refine List.forall_mem_cons.2 ⟨by kernel_rfl, ?_⟩
  refine List.forall_mem_cons.2 ⟨by kernel_rfl, ?_⟩
  refine List.forall_mem_cons.2 ⟨by kernel_rfl, ?_⟩
  refine List.forall_mem_cons.2 ⟨by kernel_rfl, ?_⟩
  refine List.forall_mem_cons.2 ⟨by kernel_rfl, ?_⟩
  refine List.forall_mem_cons.2 ⟨by kernel_rfl, ?_⟩
  refine List.forall_mem_cons.2 ⟨by kernel_rfl, ?_⟩
  refine List.forall_mem_cons.2 ⟨by kernel_rfl, ?_⟩
  refine List.forall_mem_cons.2 ⟨by kernel_rfl, ?_⟩
  refine List.forall_mem_cons.2 ⟨by kernel_rfl, ?_⟩
  refine List.forall_mem_cons.2 ⟨by kernel_rfl, ?_⟩
  refine List.forall_mem_cons.2 ⟨by kernel_rfl, ?_⟩
  refine List.forall_mem_cons.2 ⟨by kernel_rfl, ?_⟩
  refine List.forall_mem_cons.2 ⟨by kernel_rfl, ?_⟩
  refine List.forall_mem_cons.2 ⟨by kernel_rfl, ?_⟩
  refine List.forall_mem_cons.2 ⟨by kernel_rfl, ?_⟩
  refine List.forall_mem_cons.2 ⟨by kernel_rfl, ?_⟩
  refine List.forall_mem_cons.2 ⟨by kernel_rfl, ?_⟩
  refine List.forall_mem_cons.2 ⟨by kernel_rfl, ?_⟩
  refine List.forall_mem_cons.2 ⟨by kernel_rfl, ?_⟩
  refine List.forall_mem_cons.2 ⟨by kernel_rfl, ?_⟩
  refine List.forall_mem_cons.2 ⟨by kernel_rfl, ?_⟩
  refine List.forall_mem_cons.2 ⟨by kernel_rfl, ?_⟩
  refine List.forall_mem_cons.2 ⟨by kernel_rfl, ?_⟩
  refine List.forall_mem_cons.2 ⟨by kernel_rfl, ?_⟩
  refine List.forall_mem_cons.2 ⟨by kernel_rfl, ?_⟩
  refine List.forall_mem_cons.2 ⟨by kernel_rfl, ?_⟩
  refine List.forall_mem_cons.2 ⟨by kernel_rfl, ?_⟩
  refine List.forall_mem_cons.2 ⟨by kernel_rfl, ?_⟩
  refine List.forall_mem_cons.2 ⟨by kernel_rfl, ?_⟩
  refine List.forall_mem_cons.2 ⟨by kernel_rfl, ?_⟩
  refine List.forall_mem_cons.2 ⟨by kernel_rfl, ?_⟩
  refine List.forall_mem_cons.2 ⟨by kernel_rfl, ?_⟩
  refine List.forall_mem_cons.2 ⟨by kernel_rfl, ?_⟩
  refine List.forall_mem_cons.2 ⟨by kernel_rfl, ?_⟩
  refine List.forall_mem_cons.2 ⟨by kernel_rfl, ?_⟩
  refine List.forall_mem_cons.2 ⟨by kernel_rfl, ?_⟩
  refine List.forall_mem_cons.2 ⟨by kernel_rfl, ?_⟩
  refine List.forall_mem_cons.2 ⟨by kernel_rfl, ?_⟩
  exact fun p hp => absurd hp List.not_mem_nil
theorem mem_of_lookup {t : TypeId} {L : Lay} : ∀ {l : List (TypeId × Lay)}, l.lookup t = some L → (t, L) ∈ l
  | [], h => by simp at h
  | (a, b) :: l, h => by
    simp only [List.lookup] at h
    split at h
    · rename_i he
      simp only [beq_iff_eq, Option.some.injEq] at he h
      subst he h
      exact List.mem_cons_self
    · exact List.mem_cons_of_mem _ (mem_of_lookup h)
noncomputable def X : Cx := ⟨Go.Proofs.Try.prog, fun t => layT.lookup t, fun t L h => layOf_ok (layT_ok (t, L) (mem_of_lookup h)), [], by kernel_rfl⟩
theorem lay1 : X.lay 1 = some ⟨.other, 1, 8, [.nilFunc]⟩ := by kernel_rfl
theorem lay2 : X.lay 2 = some ⟨.int .i64, 1, 8, [.int .i64 0]⟩ := by kernel_rfl
theorem lay3 : X.lay 3 = some ⟨.int .i64, 1, 8, [.int .i64 0]⟩ := by kernel_rfl
theorem lay4 : X.lay 4 = some ⟨.bool, 1, 1, [.bool false]⟩ := by kernel_rfl
theorem lay5 : X.lay 5 = some ⟨.int .u8, 1, 1, [.int .u8 0]⟩ := by kernel_rfl
theorem lay6 : X.lay 6 = some ⟨.int .u8, 1, 1, [.int .u8 0]⟩ := by kernel_rfl
theorem lay7 : X.lay 7 = some ⟨.struct [(2, 0), (3, 1), (4, 2), (6, 3)], 4, 24, [.int .i64 0, .int .i64 0, .bool false, .int .u8 0]⟩ := by kernel_rfl
theorem lay8 : X.lay 8 = some ⟨.struct [(2, 0), (3, 1), (4, 2), (6, 3)], 4, 24, [.int .i64 0, .int .i64 0, .bool false, .int .u8 0]⟩ := by kernel_rfl
theorem lay9 : X.lay 9 = some ⟨.string, 1, 16, [.string ⟨#[]⟩]⟩ := by kernel_rfl
theorem lay10 : X.lay 10 = some ⟨.string, 1, 16, [.string ⟨#[]⟩]⟩ := by kernel_rfl
theorem lay11 : X.lay 11 = some ⟨.string, 1, 16, [.string ⟨#[]⟩]⟩ := by kernel_rfl
theorem lay12 : X.lay 12 = some ⟨.int .u64, 1, 8, [.int .u64 0]⟩ := by kernel_rfl
theorem lay13 : X.lay 13 = some ⟨.struct [(9, 0), (12, 1)], 2, 24, [.string ⟨#[]⟩, .int .u64 0]⟩ := by kernel_rfl
theorem lay14 : X.lay 14 = some ⟨.struct [(9, 0), (12, 1)], 2, 24, [.string ⟨#[]⟩, .int .u64 0]⟩ := by kernel_rfl
theorem lay15 : X.lay 15 = some ⟨.other, 1, 8, [.pointer none]⟩ := by kernel_rfl
theorem lay16 : X.lay 16 = some ⟨.other, 1, 8, [.pointer none]⟩ := by kernel_rfl
theorem lay17 : X.lay 17 = some ⟨.other, 1, 8, [.pointer none]⟩ := by kernel_rfl
theorem lay18 : X.lay 18 = some ⟨.struct [(17, 0)], 1, 8, [.pointer none]⟩ := by kernel_rfl
theorem lay19 : X.lay 19 = some ⟨.struct [(17, 0)], 1, 8, [.pointer none]⟩ := by kernel_rfl
theorem lay21 : X.lay 21 = some ⟨.int .i32, 1, 4, [.int .i32 0]⟩ := by kernel_rfl
theorem lay22 : X.lay 22 = some ⟨.float .f32, 1, 4, [.float .f32 0]⟩ := by kernel_rfl
theorem lay23 : X.lay 23 = some ⟨.int .i16, 1, 2, [.int .i16 0]⟩ := by kernel_rfl
theorem lay24 : X.lay 24 = some ⟨.struct [(2, 0), (22, 1), (23, 2), (22, 3), (2, 4)], 5, 32, [.int .i64 0, .float .f32 0, .int .i16 0, .float .f32 0, .int .i64 0]⟩ := by kernel_rfl
theorem lay25 : X.lay 25 = some ⟨.struct [(2, 0), (22, 1), (23, 2), (22, 3), (2, 4)], 5, 32, [.int .i64 0, .float .f32 0, .int .i16 0, .float .f32 0, .int .i64 0]⟩ := by kernel_rfl
theorem lay26 : X.lay 26 = some ⟨.struct [(2, 0), (23, 1), (23, 2)], 3, 16, [.int .i64 0, .int .i16 0, .int .i16 0]⟩ := by kernel_rfl
theorem lay27 : X.lay 27 = some ⟨.struct [(2, 0), (23, 1), (23, 2)], 3, 16, [.int .i64 0, .int .i16 0, .int .i16 0]⟩ := by kernel_rfl
theorem lay28 : X.lay 28 = some ⟨.struct [(2, 0), (22, 1), (23, 2), (22, 3), (2, 4)], 5, 32, [.int .i64 0, .float .f32 0, .int .i16 0, .float .f32 0, .int .i64 0]⟩ := by kernel_rfl
theorem lay30 : X.lay 30 = some ⟨.other, 1, 8, [.nilFunc]⟩ := by kernel_rfl
theorem lay31 : X.lay 31 = some ⟨.other, 1, 8, [.nilFunc]⟩ := by kernel_rfl
theorem lay32 : X.lay 32 = some ⟨.other, 1, 8, [.nilFunc]⟩ := by kernel_rfl
theorem lay33 : X.lay 33 = some ⟨.other, 1, 8, [.nilFunc]⟩ := by kernel_rfl
theorem lay34 : X.lay 34 = some ⟨.other, 1, 8, [.nilFunc]⟩ := by kernel_rfl
theorem lay35 : X.lay 35 = some ⟨.slice 88, 1, 24, [.slice none 0 0]⟩ := by kernel_rfl
theorem lay36 : X.lay 36 = some ⟨.other, 1, 8, [.nilFunc]⟩ := by kernel_rfl
theorem lay37 : X.lay 37 = some ⟨.slice 22, 1, 24, [.slice none 0 0]⟩ := by kernel_rfl
theorem lay39 : X.lay 39 = some ⟨.other, 1, 8, [.nilFunc]⟩ := by kernel_rfl
theorem lay40 : X.lay 40 = some ⟨.slice 27, 1, 24, [.slice none 0 0]⟩ := by kernel_rfl
theorem lay41 : X.lay 41 = some ⟨.other, 1, 8, [.nilFunc]⟩ := by kernel_rfl
theorem lay42 : X.lay 42 = some ⟨.other, 1, 8, [.nilFunc]⟩ := by kernel_rfl
theorem lay43 : X.lay 43 = some ⟨.other, 1, 8, [.nilFunc]⟩ := by kernel_rfl
theorem lay44 : X.lay 44 = some ⟨.other, 1, 8, [.nilFunc]⟩ := by kernel_rfl
theorem lay45 : X.lay 45 = some ⟨.other, 1, 8, [.nilFunc]⟩ := by kernel_rfl
theorem lay46 : X.lay 46 = some ⟨.other, 1, 8, [.nilFunc]⟩ := by kernel_rfl
theorem lay47 : X.lay 47 = some ⟨.slice 5, 1, 24, [.slice none 0 0]⟩ := by kernel_rfl
theorem lay49 : X.lay 49 = some ⟨.other, 1, 8, [.nilFunc]⟩ := by kernel_rfl
theorem lay50 : X.lay 50 = some ⟨.other, 1, 8, [.nilFunc]⟩ := by kernel_rfl
theorem lay51 : X.lay 51 = some ⟨.other, 1, 8, [.nilFunc]⟩ := by kernel_rfl
theorem lay52 : X.lay 52 = some ⟨.other, 1, 8, [.nilFunc]⟩ := by kernel_rfl
theorem lay54 : X.lay 54 = some ⟨.other, 1, 8, [.nilFunc]⟩ := by kernel_rfl
theorem lay55 : X.lay 55 = some ⟨.other, 1, 8, [.nilFunc]⟩ := by kernel_rfl
theorem lay57 : X.lay 57 = some ⟨.other, 1, 8, [.nilFunc]⟩ := by kernel_rfl
theorem lay58 : X.lay 58 = some ⟨.other, 1, 8, [.nilFunc]⟩ := by kernel_rfl
theorem lay59 : X.lay 59 = some ⟨.other, 1, 8, [.nilFunc]⟩ := by kernel_rfl
theorem lay60 : X.lay 60 = some ⟨.other, 1, 8, [.nilFunc]⟩ := by kernel_rfl
theorem lay61 : X.lay 61 = some ⟨.other, 1, 8, [.nilFunc]⟩ := by kernel_rfl
theorem lay62 : X.lay 62 = some ⟨.other, 1, 8, [.nilFunc]⟩ := by kernel_rfl
theorem lay64 : X.lay 64 = some ⟨.other, 1, 8, [.nilFunc]⟩ := by kernel_rfl
theorem lay65 : X.lay 65 = some ⟨.other, 1, 8, [.nilFunc]⟩ := by kernel_rfl
theorem lay66 : X.lay 66 = some ⟨.other, 1, 8, [.nilFunc]⟩ := by kernel_rfl
theorem lay67 : X.lay 67 = some ⟨.other, 1, 8, [.nilFunc]⟩ := by kernel_rfl
theorem lay68 : X.lay 68 = some ⟨.other, 1, 8, [.nilFunc]⟩ := by kernel_rfl
theorem lay69 : X.lay 69 = some ⟨.array 8 4, 8, 8, [.bool false, .bool false, .bool false, .bool false, .bool false, .bool false, .bool false, .bool false]⟩ := by kernel_rfl
theorem lay71 : X.lay 71 = some ⟨.other, 1, 8, [.nilFunc]⟩ := by kernel_rfl
theorem lay72 : X.lay 72 = some ⟨.other, 1, 8, [.nilFunc]⟩ := by kernel_rfl
theorem lay73 : X.lay 73 = some ⟨.other, 1, 8, [.nilFunc]⟩ := by kernel_rfl
theorem lay75 : X.lay 75 = some ⟨.other, 1, 8, [.nilFunc]⟩ := by kernel_rfl
theorem lay76 : X.lay 76 = some ⟨.other, 1, 8, [.nilFunc]⟩ := by kernel_rfl
theorem lay77 : X.lay 77 = some ⟨.other, 1, 8, [.pointer none]⟩ := by kernel_rfl
theorem lay78 : X.lay 78 = some ⟨.other, 1, 8, [.nilFunc]⟩ := by kernel_rfl
theorem lay79 : X.lay 79 = some ⟨.other, 1, 8, [.nilFunc]⟩ := by kernel_rfl
theorem lay80 : X.lay 80 = some ⟨.other, 1, 8, [.nilFunc]⟩ := by kernel_rfl
theorem lay81 : X.lay 81 = some ⟨.other, 1, 8, [.nilFunc]⟩ := by kernel_rfl
theorem lay82 : X.lay 82 = some ⟨.other, 1, 8, [.nilFunc]⟩ := by kernel_rfl
theorem lay83 : X.lay 83 = some ⟨.other, 1, 8, [.nilFunc]⟩ := by kernel_rfl
theorem lay84 : X.lay 84 = some ⟨.other, 1, 8, [.nilFunc]⟩ := by kernel_rfl
theorem lay85 : X.lay 85 = some ⟨.float .f64, 1, 8, [.float .f64 0]⟩ := by kernel_rfl
theorem lay86 : X.lay 86 = some ⟨.other, 1, 8, [.nilFunc]⟩ := by kernel_rfl
theorem lay87 : X.lay 87 = some ⟨.other, 1, 8, [.nilFunc]⟩ := by kernel_rfl
theorem lay88 : X.lay 88 = some ⟨.struct [(2, 0), (23, 1), (23, 2)], 3, 16, [.int .i64 0, .int .i16 0, .int .i16 0]⟩ := by kernel_rfl
theorem lay89 : X.lay 89 = some ⟨.other, 1, 8, [.nilFunc]⟩ := by kernel_rfl
theorem lay90 : X.lay 90 = some ⟨.other, 1, 8, [.nilFunc]⟩ := by kernel_rfl
theorem lay91 : X.lay 91 = some ⟨.other, 1, 8, [.nilFunc]⟩ := by kernel_rfl
theorem lay92 : X.lay 92 = some ⟨.other, 1, 8, [.nilFunc]⟩ := by kernel_rfl
theorem lay94 : X.lay 94 = some ⟨.other, 1, 8, [.nilFunc]⟩ := by kernel_rfl
theorem lay95 : X.lay 95 = some ⟨.other, 1, 8, [.pointer none]⟩ := by kernel_rfl
theorem lay96 : X.lay 96 = some ⟨.other, 1, 8, [.nilFunc]⟩ := by kernel_rfl
theorem lay98 : X.lay 98 = some ⟨.other, 1, 8, [.nilFunc]⟩ := by kernel_rfl
theorem lay100 : X.lay 100 = some ⟨.other, 1, 8, [.nilFunc]⟩ := by kernel_rfl
theorem lay101 : X.lay 101 = some ⟨.other, 1, 8, [.nilFunc]⟩ := by kernel_rfl
theorem lay102 : X.lay 102 = some ⟨.other, 1, 8, [.nilFunc]⟩ := by kernel_rfl
theorem lay103 : X.lay 103 = some ⟨.other, 1, 8, [.nilFunc]⟩ := by kernel_rfl
theorem lay104 : X.lay 104 = some ⟨.other, 1, 8, [.nilFunc]⟩ := by kernel_rfl
theorem lay105 : X.lay 105 = some ⟨.other, 1, 8, [.nilFunc]⟩ := by kernel_rfl
theorem lay106 : X.lay 106 = some ⟨.other, 1, 8, [.nilFunc]⟩ := by kernel_rfl
theorem lay107 : X.lay 107 = some ⟨.other, 1, 8, [.nilFunc]⟩ := by kernel_rfl
theorem lay108 : X.lay 108 = some ⟨.other, 1, 8, [.nilFunc]⟩ := by kernel_rfl
theorem lay109 : X.lay 109 = some ⟨.slice 23, 1, 24, [.slice none 0 0]⟩ := by kernel_rfl
theorem lay110 : X.lay 110 = some ⟨.other, 1, 8, [.nilFunc]⟩ := by kernel_rfl
theorem lay111 : X.lay 111 = some ⟨.other, 1, 8, [.nilFunc]⟩ := by kernel_rfl
theorem lay112 : X.lay 112 = some ⟨.other, 1, 8, [.pointer none]⟩ := by kernel_rfl
theorem lay113 : X.lay 113 = some ⟨.other, 1, 8, [.nilFunc]⟩ := by kernel_rfl
theorem lay114 : X.lay 114 = some ⟨.other, 1, 8, [.nilFunc]⟩ := by kernel_rfl
theorem lay115 : X.lay 115 = some ⟨.other, 1, 8, [.nilFunc]⟩ := by kernel_rfl
theorem lay116 : X.lay 116 = some ⟨.other, 1, 8, [.nilFunc]⟩ := by kernel_rfl
theorem lay117 : X.lay 117 = some ⟨.other, 1, 8, [.nilFunc]⟩ := by kernel_rfl
theorem lay118 : X.lay 118 = some ⟨.slice 2, 1, 24, [.slice none 0 0]⟩ := by kernel_rfl
theorem lay119 : X.lay 119 = some ⟨.other, 1, 8, [.nilFunc]⟩ := by kernel_rfl
theorem lay120 : X.lay 120 = some ⟨.other, 1, 8, [.nilFunc]⟩ := by kernel_rfl
theorem lay121 : X.lay 121 = some ⟨.other, 1, 8, [.nilFunc]⟩ := by kernel_rfl
theorem lay122 : X.lay 122 = some ⟨.int .u32, 1, 4, [.int .u32 0]⟩ := by kernel_rfl
theorem lay123 : X.lay 123 = some ⟨.other, 1, 8, [.nilFunc]⟩ := by kernel_rfl
theorem lay124 : X.lay 124 = some ⟨.other, 1, 8, [.nilFunc]⟩ := by kernel_rfl
theorem lay125 : X.lay 125 = some ⟨.other, 1, 8, [.nilFunc]⟩ := by kernel_rfl
theorem lay126 : X.lay 126 = some ⟨.other, 1, 8, [.nilFunc]⟩ := by kernel_rfl
theorem lay127 : X.lay 127 = some ⟨.other, 1, 8, [.nilFunc]⟩ := by kernel_rfl
theorem lay128 : X.lay 128 = some ⟨.array 3 2, 3, 24, [.int .i64 0, .int .i64 0, .int .i64 0]⟩ := by kernel_rfl
theorem lay129 : X.lay 129 = some ⟨.int .u64, 1, 8, [.int .u64 0]⟩ := by kernel_rfl
theorem lay130 : X.lay 130 = some ⟨.other, 1, 8, [.nilFunc]⟩ := by kernel_rfl
theorem lay131 : X.lay 131 = some ⟨.other, 1, 8, [.nilFunc]⟩ := by kernel_rfl
theorem lay132 : X.lay 132 = some ⟨.slice 3, 1, 24, [.slice none 0 0]⟩ := by kernel_rfl
theorem lay133 : X.lay 133 = some ⟨.other, 1, 8, [.nilFunc]⟩ := by kernel_rfl
theorem lay134 : X.lay 134 = some ⟨.other, 1, 8, [.nilFunc]⟩ := by kernel_rfl
theorem lay135 : X.lay 135 = some ⟨.other, 1, 8, [.nilFunc]⟩ := by kernel_rfl
theorem lay136 : X.lay 136 = some ⟨.int .u64, 1, 8, [.int .u64 0]⟩ := by kernel_rfl
theorem lay137 : X.lay 137 = some ⟨.struct [(47, 0), (3, 1), (136, 2)], 3, 40, [.slice none 0 0, .int .i64 0, .int .u64 0]⟩ := by kernel_rfl
theorem lay138 : X.lay 138 = some ⟨.struct [(47, 0), (3, 1), (136, 2)], 3, 40, [.slice none 0 0, .int .i64 0, .int .u64 0]⟩ := by kernel_rfl
theorem lay139 : X.lay 139 = some ⟨.other, 1, 8, [.nilFunc]⟩ := by kernel_rfl
theorem lay140 : X.lay 140 = some ⟨.other, 1, 8, [.nilFunc]⟩ := by kernel_rfl
theorem lay141 : X.lay 141 = some ⟨.slice 47, 1, 24, [.slice none 0 0]⟩ := by kernel_rfl
theorem lay142 : X.lay 142 = some ⟨.other, 1, 8, [.nilFunc]⟩ := by kernel_rfl
theorem lay143 : X.lay 143 = some ⟨.other, 1, 8, [.nilFunc]⟩ := by kernel_rfl
theorem lay144 : X.lay 144 = some ⟨.other, 1, 8, [.nilFunc]⟩ := by kernel_rfl
theorem lay145 : X.lay 145 = some ⟨.int .i64, 1, 8, [.int .i64 0]⟩ := by kernel_rfl
theorem lay147 : X.lay 147 = some ⟨.other, 1, 8, [.nilFunc]⟩ := by kernel_rfl
theorem lay148 : X.lay 148 = some ⟨.other, 1, 8, [.nilFunc]⟩ := by kernel_rfl
theorem lay149 : X.lay 149 = some ⟨.other, 1, 8, [.nilFunc]⟩ := by kernel_rfl
theorem lay150 : X.lay 150 = some ⟨.other, 1, 8, [.nilFunc]⟩ := by kernel_rfl
theorem lay151 : X.lay 151 = some ⟨.other, 1, 8, [.nilFunc]⟩ := by kernel_rfl
theorem lay152 : X.lay 152 = some ⟨.other, 1, 8, [.nilFunc]⟩ := by kernel_rfl
theorem lay153 : X.lay 153 = some ⟨.other, 1, 8, [.nilFunc]⟩ := by kernel_rfl
theorem lay154 : X.lay 154 = some ⟨.other, 1, 8, [.nilFunc]⟩ := by kernel_rfl
theorem lay155 : X.lay 155 = some ⟨.int .u64, 1, 8, [.int .u64 0]⟩ := by kernel_rfl
theorem lay156 : X.lay 156 = some ⟨.other, 1, 8, [.nilFunc]⟩ := by kernel_rfl
theorem lay157 : X.lay 157 = some ⟨.other, 1, 8, [.nilFunc]⟩ := by kernel_rfl
theorem lay158 : X.lay 158 = some ⟨.other, 1, 8, [.nilFunc]⟩ := by kernel_rfl
theorem lay159 : X.lay 159 = some ⟨.other, 1, 8, [.pointer none]⟩ := by kernel_rfl
theorem lay160 : X.lay 160 = some ⟨.other, 1, 8, [.nilFunc]⟩ := by kernel_rfl
theorem lay161 : X.lay 161 = some ⟨.other, 1, 8, [.pointer none]⟩ := by kernel_rfl
theorem lay163 : X.lay 163 = some ⟨.other, 1, 8, [.nilFunc]⟩ := by kernel_rfl
theorem lay164 : X.lay 164 = some ⟨.other, 1, 8, [.nilFunc]⟩ := by kernel_rfl
theorem lay165 : X.lay 165 = some ⟨.struct [(17, 0), (17, 1), (17, 2), (9, 3)], 4, 40, [.pointer none, .pointer none, .pointer none, .string ⟨#[]⟩]⟩ := by kernel_rfl
theorem lay166 : X.lay 166 = some ⟨.struct [(17, 0), (17, 1), (17, 2), (9, 3)], 4, 40, [.pointer none, .pointer none, .pointer none, .string ⟨#[]⟩]⟩ := by kernel_rfl
theorem lay167 : X.lay 167 = some ⟨.array 0 16, 0, 0, []⟩ := by kernel_rfl
theorem lay170 : X.lay 170 = some ⟨.other, 1, 8, [.nilFunc]⟩ := by kernel_rfl
theorem lay171 : X.lay 171 = some ⟨.int .u8, 1, 1, [.int .u8 0]⟩ := by kernel_rfl
theorem lay172 : X.lay 172 = some ⟨.int .u8, 1, 1, [.int .u8 0]⟩ := by kernel_rfl
theorem lay173 : X.lay 173 = some ⟨.other, 1, 8, [.nilFunc]⟩ := by kernel_rfl
theorem lay174 : X.lay 174 = some ⟨.other, 1, 8, [.pointer none]⟩ := by kernel_rfl
theorem lay175 : X.lay 175 = some ⟨.int .i32, 1, 4, [.int .i32 0]⟩ := by kernel_rfl
theorem lay176 : X.lay 176 = some ⟨.int .i32, 1, 4, [.int .i32 0]⟩ := by kernel_rfl
theorem lay177 : X.lay 177 = some ⟨.struct [(12, 0), (12, 1), (122, 2), (171, 3), (5, 4), (5, 5), (172, 6), (173, 7), (174, 8), (175, 9), (176, 10)], 11, 48, [.int .u64 0, .int .u64 0, .int .u32 0, .int .u8 0, .int .u8 0, .int .u8 0, .int .u8 0, .nilFunc, .pointer none, .int .i32 0, .int .i32 0]⟩ := by kernel_rfl
theorem lay178 : X.lay 178 = some ⟨.struct [(12, 0), (12, 1), (122, 2), (171, 3), (5, 4), (5, 5), (172, 6), (173, 7), (174, 8), (175, 9), (176, 10)], 11, 48, [.int .u64 0, .int .u64 0, .int .u32 0, .int .u8 0, .int .u8 0, .int .u8 0, .int .u8 0, .nilFunc, .pointer none, .int .i32 0, .int .i32 0]⟩ := by kernel_rfl
end Go.VL
