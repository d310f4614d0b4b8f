/- The shapes of the types, and what is known of the program. -/
import Derived.Test.YtbejolinihbokaaV24
import Derived.Test.YtbejolinihbokaaProg
set_option maxRecDepth 20000
namespace Go.VL
open Go.RowKit
def layT : List (TypeId × Lay) := [
  (1, ⟨.other, 1, 8, [.nilFunc]⟩),
  (2, ⟨.int .i64, 1, 8, [.int .i64 0]⟩),
  (3, ⟨.int .i64, 1, 8, [.int .i64 0]⟩),
  (4, ⟨.bool, 1, 1, [.bool false]⟩),
  (5, ⟨.int .u8, 1, 1, [.int .u8 0]⟩),
  (6, ⟨.int .u8, 1, 1, [.int .u8 0]⟩),
  (7, ⟨.struct [(2, 0), (3, 1), (4, 2), (6, 3)], 4, 24, [.int .i64 0, .int .i64 0, .bool false, .int .u8 0]⟩),
  (8, ⟨.struct [(2, 0), (3, 1), (4, 2), (6, 3)], 4, 24, [.int .i64 0, .int .i64 0, .bool false, .int .u8 0]⟩),
  (9, ⟨.string, 1, 16, [.string ⟨#[]⟩]⟩),
  (10, ⟨.string, 1, 16, [.string ⟨#[]⟩]⟩),
  (11, ⟨.string, 1, 16, [.string ⟨#[]⟩]⟩),
  (12, ⟨.int .u64, 1, 8, [.int .u64 0]⟩),
  (13, ⟨.struct [(9, 0), (12, 1)], 2, 24, [.string ⟨#[]⟩, .int .u64 0]⟩),
  (14, ⟨.struct [(9, 0), (12, 1)], 2, 24, [.string ⟨#[]⟩, .int .u64 0]⟩),
  (15, ⟨.other, 1, 8, [.pointer none]⟩),
  (16, ⟨.other, 1, 8, [.pointer none]⟩),
  (17, ⟨.other, 1, 8, [.pointer none]⟩),
  (18, ⟨.struct [(17, 0)], 1, 8, [.pointer none]⟩),
  (19, ⟨.struct [(17, 0)], 1, 8, [.pointer none]⟩),
  (21, ⟨.int .i32, 1, 4, [.int .i32 0]⟩),
  (22, ⟨.struct [(2, 0), (2, 1), (2, 2)], 3, 24, [.int .i64 0, .int .i64 0, .int .i64 0]⟩),
  (23, ⟨.struct [(2, 0), (2, 1), (2, 2)], 3, 24, [.int .i64 0, .int .i64 0, .int .i64 0]⟩),
  (24, ⟨.other, 1, 8, [.nilFunc]⟩),
  (25, ⟨.struct [(2, 0), (2, 1), (2, 2)], 3, 24, [.int .i64 0, .int .i64 0, .int .i64 0]⟩),
  (26, ⟨.other, 1, 8, [.nilFunc]⟩),
  (27, ⟨.other, 1, 8, [.nilFunc]⟩),
  (28, ⟨.slice 2, 1, 24, [.slice none 0 0]⟩),
  (29, ⟨.struct [(2, 0), (28, 1)], 2, 32, [.int .i64 0, .slice none 0 0]⟩),
  (30, ⟨.struct [(2, 0), (28, 1)], 2, 32, [.int .i64 0, .slice none 0 0]⟩),
  (31, ⟨.other, 1, 8, [.nilFunc]⟩),
  (32, ⟨.other, 1, 8, [.nilFunc]⟩),
  (33, ⟨.struct [(2, 0), (28, 1)], 2, 32, [.int .i64 0, .slice none 0 0]⟩),
  (34, ⟨.other, 1, 8, [.nilFunc]⟩),
  (35, ⟨.other, 1, 8, [.nilFunc]⟩),
  (36, ⟨.other, 1, 8, [.nilFunc]⟩),
  (37, ⟨.slice 23, 1, 24, [.slice none 0 0]⟩),
  (38, ⟨.other, 1, 8, [.nilFunc]⟩),
  (40, ⟨.other, 1, 8, [.nilFunc]⟩),
  (41, ⟨.slice 25, 1, 24, [.slice none 0 0]⟩),
  (42, ⟨.other, 1, 8, [.nilFunc]⟩),
  (43, ⟨.other, 1, 8, [.nilFunc]⟩),
  (44, ⟨.other, 1, 8, [.nilFunc]⟩),
  (45, ⟨.struct [(2, 0), (2, 1)], 2, 16, [.int .i64 0, .int .i64 0]⟩),
  (46, ⟨.struct [(2, 0), (2, 1)], 2, 16, [.int .i64 0, .int .i64 0]⟩),
  (48, ⟨.other, 1, 8, [.nilFunc]⟩),
  (49, ⟨.other, 1, 8, [.nilFunc]⟩),
  (50, ⟨.other, 1, 8, [.nilFunc]⟩),
  (52, ⟨.other, 1, 8, [.nilFunc]⟩),
  (54, ⟨.other, 1, 8, [.nilFunc]⟩),
  (55, ⟨.other, 1, 8, [.nilFunc]⟩),
  (56, ⟨.other, 1, 8, [.nilFunc]⟩),
  (57, ⟨.other, 1, 8, [.nilFunc]⟩),
  (58, ⟨.other, 1, 8, [.nilFunc]⟩),
  (60, ⟨.other, 1, 8, [.nilFunc]⟩),
  (61, ⟨.slice 46, 1, 24, [.slice none 0 0]⟩),
  (62, ⟨.slice 101, 1, 24, [.slice none 0 0]⟩),
  (63, ⟨.struct [(61, 0), (61, 1), (61, 2), (28, 3), (62, 4)], 5, 120, [.slice none 0 0, .slice none 0 0, .slice none 0 0, .slice none 0 0, .slice none 0 0]⟩),
  (64, ⟨.struct [(61, 0), (61, 1), (61, 2), (28, 3), (62, 4)], 5, 120, [.slice none 0 0, .slice none 0 0, .slice none 0 0, .slice none 0 0, .slice none 0 0]⟩),
  (66, ⟨.other, 1, 8, [.nilFunc]⟩),
  (67, ⟨.other, 1, 8, [.nilFunc]⟩),
  (68, ⟨.other, 1, 8, [.nilFunc]⟩),
  (69, ⟨.slice 5, 1, 24, [.slice none 0 0]⟩),
  (70, ⟨.other, 1, 8, [.nilFunc]⟩),
  (71, ⟨.other, 1, 8, [.nilFunc]⟩),
  (72, ⟨.other, 1, 8, [.nilFunc]⟩),
  (73, ⟨.other, 1, 8, [.nilFunc]⟩),
  (74, ⟨.other, 1, 8, [.nilFunc]⟩),
  (75, ⟨.other, 1, 8, [.nilFunc]⟩),
  (76, ⟨.other, 1, 8, [.pointer none]⟩),
  (77, ⟨.other, 1, 8, [.nilFunc]⟩),
  (78, ⟨.other, 1, 8, [.nilFunc]⟩),
  (79, ⟨.other, 1, 8, [.nilFunc]⟩),
  (80, ⟨.other, 1, 8, [.nilFunc]⟩),
  (81, ⟨.other, 1, 8, [.pointer none]⟩),
  (83, ⟨.other, 1, 8, [.nilFunc]⟩),
  (84, ⟨.other, 1, 8, [.nilFunc]⟩),
  (85, ⟨.other, 1, 8, [.pointer none]⟩),
  (86, ⟨.other, 1, 8, [.nilFunc]⟩),
  (87, ⟨.other, 1, 8, [.nilFunc]⟩),
  (88, ⟨.other, 1, 8, [.nilFunc]⟩),
  (89, ⟨.struct [(76, 0), (64, 1)], 6, 128, [.pointer none, .slice none 0 0, .slice none 0 0, .slice none 0 0, .slice none 0 0, .slice none 0 0]⟩),
  (90, ⟨.struct [(76, 0), (64, 1)], 6, 128, [.pointer none, .slice none 0 0, .slice none 0 0, .slice none 0 0, .slice none 0 0, .slice none 0 0]⟩),
  (92, ⟨.other, 1, 8, [.nilFunc]⟩),
  (93, ⟨.struct [(64, 0), (33, 5)], 7, 152, [.slice none 0 0, .slice none 0 0, .slice none 0 0, .slice none 0 0, .slice none 0 0, .int .i64 0, .slice none 0 0]⟩),
  (94, ⟨.struct [(64, 0), (33, 5)], 7, 152, [.slice none 0 0, .slice none 0 0, .slice none 0 0, .slice none 0 0, .slice none 0 0, .int .i64 0, .slice none 0 0]⟩),
  (95, ⟨.other, 1, 8, [.nilFunc]⟩),
  (96, ⟨.other, 1, 8, [.nilFunc]⟩),
  (97, ⟨.other, 1, 8, [.nilFunc]⟩),
  (98, ⟨.other, 1, 8, [.nilFunc]⟩),
  (99, ⟨.other, 1, 8, [.nilFunc]⟩),
  (100, ⟨.struct [(4, 0), (2, 1), (2, 2), (2, 3)], 4, 32, [.bool false, .int .i64 0, .int .i64 0, .int .i64 0]⟩),
  (101, ⟨.struct [(4, 0), (2, 1), (2, 2), (2, 3)], 4, 32, [.bool false, .int .i64 0, .int .i64 0, .int .i64 0]⟩),
  (102, ⟨.other, 1, 8, [.nilFunc]⟩),
  (103, ⟨.other, 1, 8, [.nilFunc]⟩),
  (104, ⟨.other, 1, 8, [.nilFunc]⟩),
  (105, ⟨.other, 1, 8, [.nilFunc]⟩),
  (106, ⟨.other, 1, 8, [.pointer none]⟩),
  (107, ⟨.other, 1, 8, [.nilFunc]⟩),
  (108, ⟨.other, 1, 8, [.nilFunc]⟩),
  (109, ⟨.other, 1, 8, [.nilFunc]⟩),
  (110, ⟨.other, 1, 8, [.nilFunc]⟩),
  (111, ⟨.other, 1, 8, [.nilFunc]⟩),
  (112, ⟨.other, 1, 8, [.nilFunc]⟩),
  (113, ⟨.other, 1, 8, [.nilFunc]⟩),
  (114, ⟨.other, 1, 8, [.nilFunc]⟩),
  (115, ⟨.other, 1, 8, [.nilFunc]⟩),
  (116, ⟨.other, 1, 8, [.nilFunc]⟩),
  (117, ⟨.int .u64, 1, 8, [.int .u64 0]⟩),
  (119, ⟨.other, 1, 8, [.nilFunc]⟩),
  (120, ⟨.other, 1, 8, [.nilFunc]⟩),
  (121, ⟨.other, 1, 8, [.nilFunc]⟩),
  (122, ⟨.int .u64, 1, 8, [.int .u64 0]⟩),
  (123, ⟨.struct [(69, 0), (3, 1), (122, 2)], 3, 40, [.slice none 0 0, .int .i64 0, .int .u64 0]⟩),
  (124, ⟨.struct [(69, 0), (3, 1), (122, 2)], 3, 40, [.slice none 0 0, .int .i64 0, .int .u64 0]⟩),
  (125, ⟨.other, 1, 8, [.nilFunc]⟩),
  (126, ⟨.other, 1, 8, [.nilFunc]⟩),
  (127, ⟨.other, 1, 8, [.nilFunc]⟩),
  (128, ⟨.other, 1, 8, [.pointer none]⟩),
  (129, ⟨.other, 1, 8, [.nilFunc]⟩),
  (130, ⟨.int .u32, 1, 4, [.int .u32 0]⟩),
  (132, ⟨.other, 1, 8, [.nilFunc]⟩),
  (134, ⟨.other, 1, 8, [.nilFunc]⟩),
  (135, ⟨.other, 1, 8, [.nilFunc]⟩),
  (136, ⟨.other, 1, 8, [.nilFunc]⟩),
  (137, ⟨.struct [(17, 0), (17, 1), (17, 2), (9, 3)], 4, 40, [.pointer none, .pointer none, .pointer none, .string ⟨#[]⟩]⟩),
  (138, ⟨.struct [(17, 0), (17, 1), (17, 2), (9, 3)], 4, 40, [.pointer none, .pointer none, .pointer none, .string ⟨#[]⟩]⟩),
  (139, ⟨.array 0 16, 0, 0, []⟩),
  (142, ⟨.other, 1, 8, [.nilFunc]⟩),
  (143, ⟨.int .u8, 1, 1, [.int .u8 0]⟩),
  (144, ⟨.int .u8, 1, 1, [.int .u8 0]⟩),
  (145, ⟨.other, 1, 8, [.nilFunc]⟩),
  (146, ⟨.other, 1, 8, [.pointer none]⟩),
  (147, ⟨.int .i32, 1, 4, [.int .i32 0]⟩),
  (148, ⟨.int .i32, 1, 4, [.int .i32 0]⟩),
  (149, ⟨.struct [(12, 0), (12, 1), (130, 2), (143, 3), (5, 4), (5, 5), (144, 6), (145, 7), (146, 8), (147, 9), (148, 10)], 11, 48, [.int .u64 0, .int .u64 0, .int .u32 0, .int .u8 0, .int .u8 0, .int .u8 0, .int .u8 0, .nilFunc, .pointer none, .int .i32 0, .int .i32 0]⟩),
  (150, ⟨.struct [(12, 0), (12, 1), (130, 2), (143, 3), (5, 4), (5, 5), (144, 6), (145, 7), (146, 8), (147, 9), (148, 10)], 11, 48, [.int .u64 0, .int .u64 0, .int .u32 0, .int .u8 0, .int .u8 0, .int .u8 0, .int .u8 0, .nilFunc, .pointer none, .int .i32 0, .int .i32 0]⟩)]
theorem layT_ok : ∀ p ∈ layT, layOf Go.Proofs.Try.prog p.1 = some p.2 := by
  unfold layT
  refine List.forall_mem_cons.2 ⟨by kernel_rfl, ?_⟩
  refine List.forall_mem_cons.2 ⟨by kernel_rfl, ?_⟩
  refine List.forall_mem_cons.2 ⟨by kernel_rfl, ?_⟩
  refine List.forall_mem_cons.2 ⟨by kernel_rfl, ?_⟩
  refine List.forall_mem_cons.2 ⟨by kernel_rfl, ?_⟩
  refine List.forall_mem_cons.2 ⟨by kernel_rfl, ?_⟩
  refine List.forall_mem_cons.2 ⟨by kernel_rfl, ?_⟩
  refine List.forall_mem_cons.2 ⟨by kernel_rfl, ?_⟩
  refine List.forall_mem_cons.2 ⟨by kernel_rfl, ?_⟩
  refine List.forall_mem_cons.2 ⟨by kernel_rfl, ?_⟩
  refine List.forall_mem_cons.2 ⟨by kernel_rfl, ?_⟩
  refine List.forall_mem_cons.2 ⟨by kernel_rfl, ?_⟩
  refine List.forall_mem_cons.2 ⟨by kernel_rfl, ?_⟩
  refine List.forall_mem_cons.2 ⟨by kernel_rfl, ?_⟩
  refine List.forall_mem_cons.2 ⟨by kernel_rfl, ?_⟩
  refine List.forall_mem_cons.2 ⟨by kernel_rfl, ?_⟩
  refine List.forall_mem_cons.2 ⟨by kernel_rfl, ?_⟩
  refine List.forall_mem_cons.2 ⟨by kernel_rfl, ?_⟩
  refine List.forall_mem_cons.2 ⟨by kernel_rfl, ?_⟩
  refine List.forall_mem_cons.2 ⟨by kernel_rfl, ?_⟩
  refine List.forall_mem_cons.2 ⟨by kernel_rfl, ?_⟩
  refine List.forall_mem_cons.2 ⟨by kernel_rfl, ?_⟩
  refine List.forall_mem_cons.2 ⟨by kernel_rfl, ?_⟩
  refine List.forall_mem_cons.2 ⟨by kernel_rfl, ?_⟩
  refine List.forall_mem_cons.2 ⟨by kernel_rfl, ?_⟩
  refine List.forall_mem_cons.2 ⟨by kernel_rfl, ?_⟩
  refine List.forall_mem_cons.2 ⟨by kernel_rfl, ?_⟩
  refine List.forall_mem_cons.2 ⟨by kernel_rfl, ?_⟩
  refine List.forall_mem_cons.2 ⟨by kernel_rfl, ?_⟩
  refine List.forall_mem_cons.2 ⟨by kernel_rfl, ?_⟩
  refine List.forall_mem_cons.2 ⟨by kernel_rfl, ?_⟩
  refine List.forall_mem_cons.2 ⟨by kernel_rfl, ?_⟩
  refine List.forall_mem_cons.2 ⟨by kernel_rfl, ?_⟩
  refine List.forall_mem_cons.2 ⟨by kernel_rfl, ?_⟩
  refine List.forall_mem_cons.2 ⟨by kernel_rfl, ?_⟩
  refine List.forall_mem_cons.2 ⟨by kernel_rfl, ?_⟩
  refine List.forall_mem_cons.2 ⟨by kernel_rfl, ?_⟩
  refine List.forall_mem_cons.2 ⟨by kernel_rfl, ?_⟩
  refine List.forall_mem_cons.2 ⟨by kernel_rfl, ?_⟩
  refine List.forall_mem_cons.2 ⟨by kernel_rfl, ?_⟩
  refine List.forall_mem_cons.2 ⟨by kernel_rfl, ?_⟩
  refine List.forall_mem_cons.2 ⟨by kernel_rfl, ?_⟩
  refine List.forall_mem_cons.2 ⟨by kernel_rfl, ?_⟩
  refine List.forall_mem_cons.2 ⟨by kernel_rfl, ?_⟩
  refine List.forall_mem_cons.2 ⟨by kernel_rfl, ?_⟩
  refine List.forall_mem_cons.2 ⟨by kernel_rfl, ?_⟩
  refine List.forall_mem_cons.2 ⟨by kernel_rfl, ?_⟩
  refine List.forall_mem_cons.2 ⟨by kernel_rfl, ?_⟩
  refine List.forall_mem_cons.2 ⟨by kernel_rfl, ?_⟩
  refine List.forall_mem_cons.2 ⟨by kernel_rfl, ?_⟩
  refine List.forall_mem_cons.2 ⟨by kernel_rfl, ?_⟩
  refine List.forall_mem_cons.2 ⟨by kernel_rfl, ?_⟩
  refine List.forall_mem_cons.2 ⟨by kernel_rfl, ?_⟩
  refine List.forall_mem_cons.2 ⟨by kernel_rfl, ?_⟩
  refine List.forall_mem_cons.2 ⟨by kernel_rfl, ?_⟩
  refine List.forall_mem_cons.2 ⟨by kernel_rfl, ?_⟩
  refine List.forall_mem_cons.2 ⟨by kernel_rfl, ?_⟩
  refine List.forall_mem_cons.2 ⟨by kernel_rfl, ?_⟩
  refine List.forall_mem_cons.2 ⟨by kernel_rfl, ?_⟩
  refine List.forall_mem_cons.2 ⟨by kernel_rfl, ?_⟩
  refine List.forall_mem_cons.2 ⟨by kernel_rfl, ?_⟩
  refine List.forall_mem_cons.2 ⟨by kernel_rfl, ?_⟩
  refine List.forall_mem_cons.2 ⟨by kernel_rfl, ?_⟩
  refine List.forall_mem_cons.2 ⟨by kernel_rfl, ?_⟩
  refine List.forall_mem_cons.2 ⟨by kernel_rfl, ?_⟩
  refine List.forall_mem_cons.2 ⟨by kernel_rfl, ?_⟩
  refine List.forall_mem_cons.2 ⟨by kernel_rfl, ?_⟩
  refine List.forall_mem_cons.2 ⟨by kernel_rfl, ?_⟩
  refine List.forall_mem_cons.2 ⟨by kernel_rfl, ?_⟩
  refine List.forall_mem_cons.2 ⟨by kernel_rfl, ?_⟩
  refine List.forall_mem_cons.2 ⟨by kernel_rfl, ?_⟩
  refine List.forall_mem_cons.2 ⟨by kernel_rfl, ?_⟩
  refine List.forall_mem_cons.2 ⟨by kernel_rfl, ?_⟩
  refine List.forall_mem_cons.2 ⟨by kernel_rfl, ?_⟩
  refine List.forall_mem_cons.2 ⟨by kernel_rfl, ?_⟩
  refine List.forall_mem_cons.2 ⟨by kernel_rfl, ?_⟩
  refine List.forall_mem_cons.2 ⟨by kernel_rfl, ?_⟩
  refine List.forall_mem_cons.2 ⟨by kernel_rfl, ?_⟩
  refine List.forall_mem_cons.2 ⟨by kernel_rfl, ?_⟩
  refine List.forall_mem_cons.2 ⟨by kernel_rfl, ?_⟩
  refine List.forall_mem_cons.2 ⟨by kernel_rfl, ?_⟩
  refine List.forall_mem_cons.2 ⟨by kernel_rfl, ?_⟩
  refine List.forall_mem_cons.2 ⟨by kernel_rfl, ?_⟩
  refine List.forall_mem_cons.2 ⟨by kernel_rfl, ?_⟩
  refine List.forall_mem_cons.2 ⟨by kernel_rfl, ?_⟩
  refine List.forall_mem_cons.2 ⟨by kernel_rfl, ?_⟩
  refine List.forall_mem_cons.2 ⟨by kernel_rfl, ?_⟩
  refine List.forall_mem_cons.2 ⟨by kernel_rfl, ?_⟩
  refine List.forall_mem_cons.2 ⟨by kernel_rfl, ?_⟩
  refine List.forall_mem_cons.2 ⟨by kernel_rfl, ?_⟩
  refine List.forall_mem_cons.2 ⟨by kernel_rfl, ?_⟩
  refine List.forall_mem_cons.2 ⟨by kernel_rfl, ?_⟩
  refine List.forall_mem_cons.2 ⟨by kernel_rfl, ?_⟩
  refine List.forall_mem_cons.2 ⟨by kernel_rfl, ?_⟩
  refine List.forall_mem_cons.2 ⟨by kernel_rfl, ?_⟩
  refine List.forall_mem_cons.2 ⟨by kernel_rfl, ?_⟩
  refine List.forall_mem_cons.2 ⟨by kernel_rfl, ?_⟩
  refine List.forall_mem_cons.2 ⟨by kernel_rfl, ?_⟩
  refine List.forall_mem_cons.2 ⟨by kernel_rfl, ?_⟩
  refine List.forall_mem_cons.2 ⟨by kernel_rfl, ?_⟩
  refine List.forall_mem_cons.2 ⟨by kernel_rfl, ?_⟩
  refine List.forall_mem_cons.2 ⟨by kernel_rfl, ?_⟩
  refine List.forall_mem_cons.2 ⟨by kernel_rfl, ?_⟩
  refine List.forall_mem_cons.2 ⟨by kernel_rfl, ?_⟩
  refine List.forall_mem_cons.2 ⟨by kernel_rfl, ?_⟩
  refine List.forall_mem_cons.2 ⟨by kernel_rfl, ?_⟩
  refine List.forall_mem_cons.2 ⟨by kernel_rfl, ?_⟩
  refine List.forall_mem_cons.2 ⟨by kernel_rfl, ?_⟩
  refine List.forall_mem_cons.2 ⟨by kernel_rfl, ?_⟩
  refine List.forall_mem_cons.2 ⟨by kernel_rfl, ?_⟩
  refine List.forall_mem_cons.2 ⟨by kernel_rfl, ?_⟩
  refine List.forall_mem_cons.2 ⟨by kernel_rfl, ?_⟩
  refine List.forall_mem_cons.2 ⟨by kernel_rfl, ?_⟩
  refine List.forall_mem_cons.2 ⟨by kernel_rfl, ?_⟩
  refine List.forall_mem_cons.2 ⟨by kernel_rfl, ?_⟩
  refine List.forall_mem_cons.2 ⟨by kernel_rfl, ?_⟩
  refine List.forall_mem_cons.2 ⟨by kernel_rfl, ?_⟩
  refine List.forall_mem_cons.2 ⟨by kernel_rfl, ?_⟩
  refine List.forall_mem_cons.2 ⟨by kernel_rfl, ?_⟩
  refine List.forall_mem_cons.2 ⟨by kernel_rfl, ?_⟩
  refine List.forall_mem_cons.2 ⟨by kernel_rfl, ?_⟩
  refine List.forall_mem_cons.2 ⟨by kernel_rfl, ?_⟩
  refine List.forall_mem_cons.2 ⟨by kernel_rfl, ?_⟩
  refine List.forall_mem_cons.2 ⟨by kernel_rfl, ?_⟩
  refine List.forall_mem_cons.2 ⟨by kernel_rfl, ?_⟩
  refine List.forall_mem_cons.2 ⟨by kernel_rfl, ?_⟩
  refine List.forall_mem_cons.2 ⟨by kernel_rfl, ?_⟩
  refine List.forall_mem_cons.2 ⟨by kernel_rfl, ?_⟩
  refine List.forall_mem_cons.2 ⟨by kernel_rfl, ?_⟩
  refine List.forall_mem_cons.2 ⟨by kernel_rfl, ?_⟩
  refine List.forall_mem_cons.2 ⟨by kernel_rfl, ?_⟩
  refine List.forall_mem_cons.2 ⟨by kernel_rfl, ?_⟩
  refine List.forall_mem_cons.2 ⟨by kernel_rfl, ?_⟩
  refine List.forall_mem_cons.2 ⟨by kernel_rfl, ?_⟩
  refine List.forall_mem_cons.2 ⟨by kernel_rfl, ?_⟩
  refine List.forall_mem_cons.2 ⟨by kernel_rfl, ?_⟩
  exact fun p hp => absurd hp List.not_mem_nil
theorem mem_of_lookup {t : TypeId} {L : Lay} : ∀ {l : List (TypeId × Lay)}, l.lookup t = some L → (t, L) ∈ l
  | [], h => by simp at h
  | (a, b) :: l, h => by
    simp only [List.lookup] at h
    split at h
    · rename_i he
      simp only [beq_iff_eq, Option.some.injEq] at he h
      subst he h
      exact List.mem_cons_self
    · exact List.mem_cons_of_mem _ (mem_of_lookup h)
noncomputable def X : Cx := ⟨Go.Proofs.Try.prog, fun t => layT.lookup t, fun t L h => layOf_ok (layT_ok (t, L) (mem_of_lookup h)), [], by kernel_rfl⟩
theorem lay1 : X.lay 1 = some ⟨.other, 1, 8, [.nilFunc]⟩ := by kernel_rfl
theorem lay2 : X.lay 2 = some ⟨.int .i64, 1, 8, [.int .i64 0]⟩ := by kernel_rfl
theorem lay3 : X.lay 3 = some ⟨.int .i64, 1, 8, [.int .i64 0]⟩ := by kernel_rfl
theorem lay4 : X.lay 4 = some ⟨.bool, 1, 1, [.bool false]⟩ := by kernel_rfl
theorem lay5 : X.lay 5 = some ⟨.int .u8, 1, 1, [.int .u8 0]⟩ := by kernel_rfl
theorem lay6 : X.lay 6 = some ⟨.int .u8, 1, 1, [.int .u8 0]⟩ := by kernel_rfl
theorem lay7 : X.lay 7 = some ⟨.struct [(2, 0), (3, 1), (4, 2), (6, 3)], 4, 24, [.int .i64 0, .int .i64 0, .bool false, .int .u8 0]⟩ := by kernel_rfl
theorem lay8 : X.lay 8 = some ⟨.struct [(2, 0), (3, 1), (4, 2), (6, 3)], 4, 24, [.int .i64 0, .int .i64 0, .bool false, .int .u8 0]⟩ := by kernel_rfl
theorem lay9 : X.lay 9 = some ⟨.string, 1, 16, [.string ⟨#[]⟩]⟩ := by kernel_rfl
theorem lay10 : X.lay 10 = some ⟨.string, 1, 16, [.string ⟨#[]⟩]⟩ := by kernel_rfl
theorem lay11 : X.lay 11 = some ⟨.string, 1, 16, [.string ⟨#[]⟩]⟩ := by kernel_rfl
theorem lay12 : X.lay 12 = some ⟨.int .u64, 1, 8, [.int .u64 0]⟩ := by kernel_rfl
theorem lay13 : X.lay 13 = some ⟨.struct [(9, 0), (12, 1)], 2, 24, [.string ⟨#[]⟩, .int .u64 0]⟩ := by kernel_rfl
theorem lay14 : X.lay 14 = some ⟨.struct [(9, 0), (12, 1)], 2, 24, [.string ⟨#[]⟩, .int .u64 0]⟩ := by kernel_rfl
theorem lay15 : X.lay 15 = some ⟨.other, 1, 8, [.pointer none]⟩ := by kernel_rfl
theorem lay16 : X.lay 16 = some ⟨.other, 1, 8, [.pointer none]⟩ := by kernel_rfl
theorem lay17 : X.lay 17 = some ⟨.other, 1, 8, [.pointer none]⟩ := by kernel_rfl
theorem lay18 : X.lay 18 = some ⟨.struct [(17, 0)], 1, 8, [.pointer none]⟩ := by kernel_rfl
theorem lay19 : X.lay 19 = some ⟨.struct [(17, 0)], 1, 8, [.pointer none]⟩ := by kernel_rfl
theorem lay21 : X.lay 21 = some ⟨.int .i32, 1, 4, [.int .i32 0]⟩ := by kernel_rfl
theorem lay22 : X.lay 22 = some ⟨.struct [(2, 0), (2, 1), (2, 2)], 3, 24, [.int .i64 0, .int .i64 0, .int .i64 0]⟩ := by kernel_rfl
theorem lay23 : X.lay 23 = some ⟨.struct [(2, 0), (2, 1), (2, 2)], 3, 24, [.int .i64 0, .int .i64 0, .int .i64 0]⟩ := by kernel_rfl
theorem lay24 : X.lay 24 = some ⟨.other, 1, 8, [.nilFunc]⟩ := by kernel_rfl
theorem lay25 : X.lay 25 = some ⟨.struct [(2, 0), (2, 1), (2, 2)], 3, 24, [.int .i64 0, .int .i64 0, .int .i64 0]⟩ := by kernel_rfl
theorem lay26 : X.lay 26 = some ⟨.other, 1, 8, [.nilFunc]⟩ := by kernel_rfl
theorem lay27 : X.lay 27 = some ⟨.other, 1, 8, [.nilFunc]⟩ := by kernel_rfl
theorem lay28 : X.lay 28 = some ⟨.slice 2, 1, 24, [.slice none 0 0]⟩ := by kernel_rfl
theorem lay29 : X.lay 29 = some ⟨.struct [(2, 0), (28, 1)], 2, 32, [.int .i64 0, .slice none 0 0]⟩ := by kernel_rfl
theorem lay30 : X.lay 30 = some ⟨.struct [(2, 0), (28, 1)], 2, 32, [.int .i64 0, .slice none 0 0]⟩ := by kernel_rfl
theorem lay31 : X.lay 31 = some ⟨.other, 1, 8, [.nilFunc]⟩ := by kernel_rfl
theorem lay32 : X.lay 32 = some ⟨.other, 1, 8, [.nilFunc]⟩ := by kernel_rfl
theorem lay33 : X.lay 33 = some ⟨.struct [(2, 0), (28, 1)], 2, 32, [.int .i64 0, .slice none 0 0]⟩ := by kernel_rfl
theorem lay34 : X.lay 34 = some ⟨.other, 1, 8, [.nilFunc]⟩ := by kernel_rfl
theorem lay35 : X.lay 35 = some ⟨.other, 1, 8, [.nilFunc]⟩ := by kernel_rfl
theorem lay36 : X.lay 36 = some ⟨.other, 1, 8, [.nilFunc]⟩ := by kernel_rfl
theorem lay37 : X.lay 37 = some ⟨.slice 23, 1, 24, [.slice none 0 0]⟩ := by kernel_rfl
theorem lay38 : X.lay 38 = some ⟨.other, 1, 8, [.nilFunc]⟩ := by kernel_rfl
theorem lay40 : X.lay 40 = some ⟨.other, 1, 8, [.nilFunc]⟩ := by kernel_rfl
theorem lay41 : X.lay 41 = some ⟨.slice 25, 1, 24, [.slice none 0 0]⟩ := by kernel_rfl
theorem lay42 : X.lay 42 = some ⟨.other, 1, 8, [.nilFunc]⟩ := by kernel_rfl
theorem lay43 : X.lay 43 = some ⟨.other, 1, 8, [.nilFunc]⟩ := by kernel_rfl
theorem lay44 : X.lay 44 = some ⟨.other, 1, 8, [.nilFunc]⟩ := by kernel_rfl
theorem lay45 : X.lay 45 = some ⟨.struct [(2, 0), (2, 1)], 2, 16, [.int .i64 0, .int .i64 0]⟩ := by kernel_rfl
theorem lay46 : X.lay 46 = some ⟨.struct [(2, 0), (2, 1)], 2, 16, [.int .i64 0, .int .i64 0]⟩ := by kernel_rfl
theorem lay48 : X.lay 48 = some ⟨.other, 1, 8, [.nilFunc]⟩ := by kernel_rfl
theorem lay49 : X.lay 49 = some ⟨.other, 1, 8, [.nilFunc]⟩ := by kernel_rfl
theorem lay50 : X.lay 50 = some ⟨.other, 1, 8, [.nilFunc]⟩ := by kernel_rfl
theorem lay52 : X.lay 52 = some ⟨.other, 1, 8, [.nilFunc]⟩ := by kernel_rfl
theorem lay54 : X.lay 54 = some ⟨.other, 1, 8, [.nilFunc]⟩ := by kernel_rfl
theorem lay55 : X.lay 55 = some ⟨.other, 1, 8, [.nilFunc]⟩ := by kernel_rfl
theorem lay56 : X.lay 56 = some ⟨.other, 1, 8, [.nilFunc]⟩ := by kernel_rfl
theorem lay57 : X.lay 57 = some ⟨.other, 1, 8, [.nilFunc]⟩ := by kernel_rfl
theorem lay58 : X.lay 58 = some ⟨.other, 1, 8, [.nilFunc]⟩ := by kernel_rfl
theorem lay60 : X.lay 60 = some ⟨.other, 1, 8, [.nilFunc]⟩ := by kernel_rfl
theorem lay61 : X.lay 61 = some ⟨.slice 46, 1, 24, [.slice none 0 0]⟩ := by kernel_rfl
theorem lay62 : X.lay 62 = some ⟨.slice 101, 1, 24, [.slice none 0 0]⟩ := by kernel_rfl
theorem lay63 : X.lay 63 = some ⟨.struct [(61, 0), (61, 1), (61, 2), (28, 3), (62, 4)], 5, 120, [.slice none 0 0, .slice none 0 0, .slice none 0 0, .slice none 0 0, .slice none 0 0]⟩ := by kernel_rfl
theorem lay64 : X.lay 64 = some ⟨.struct [(61, 0), (61, 1), (61, 2), (28, 3), (62, 4)], 5, 120, [.slice none 0 0, .slice none 0 0, .slice none 0 0, .slice none 0 0, .slice none 0 0]⟩ := by kernel_rfl
theorem lay66 : X.lay 66 = some ⟨.other, 1, 8, [.nilFunc]⟩ := by kernel_rfl
theorem lay67 : X.lay 67 = some ⟨.other, 1, 8, [.nilFunc]⟩ := by kernel_rfl
theorem lay68 : X.lay 68 = some ⟨.other, 1, 8, [.nilFunc]⟩ := by kernel_rfl
theorem lay69 : X.lay 69 = some ⟨.slice 5, 1, 24, [.slice none 0 0]⟩ := by kernel_rfl
theorem lay70 : X.lay 70 = some ⟨.other, 1, 8, [.nilFunc]⟩ := by kernel_rfl
theorem lay71 : X.lay 71 = some ⟨.other, 1, 8, [.nilFunc]⟩ := by kernel_rfl
theorem lay72 : X.lay 72 = some ⟨.other, 1, 8, [.nilFunc]⟩ := by kernel_rfl
theorem lay73 : X.lay 73 = some ⟨.other, 1, 8, [.nilFunc]⟩ := by kernel_rfl
theorem lay74 : X.lay 74 = some ⟨.other, 1, 8, [.nilFunc]⟩ := by kernel_rfl
theorem lay75 : X.lay 75 = some ⟨.other, 1, 8, [.nilFunc]⟩ := by kernel_rfl
theorem lay76 : X.lay 76 = some ⟨.other, 1, 8, [.pointer none]⟩ := by kernel_rfl
theorem lay77 : X.lay 77 = some ⟨.other, 1, 8, [.nilFunc]⟩ := by kernel_rfl
theorem lay78 : X.lay 78 = some ⟨.other, 1, 8, [.nilFunc]⟩ := by kernel_rfl
theorem lay79 : X.lay 79 = some ⟨.other, 1, 8, [.nilFunc]⟩ := by kernel_rfl
theorem lay80 : X.lay 80 = some ⟨.other, 1, 8, [.nilFunc]⟩ := by kernel_rfl
theorem lay81 : X.lay 81 = some ⟨.other, 1, 8, [.pointer none]⟩ := by kernel_rfl
theorem lay83 : X.lay 83 = some ⟨.other, 1, 8, [.nilFunc]⟩ := by kernel_rfl
theorem lay84 : X.lay 84 = some ⟨.other, 1, 8, [.nilFunc]⟩ := by kernel_rfl
theorem lay85 : X.lay 85 = some ⟨.other, 1, 8, [.pointer none]⟩ := by kernel_rfl
theorem lay86 : X.lay 86 = some ⟨.other, 1, 8, [.nilFunc]⟩ := by kernel_rfl
theorem lay87 : X.lay 87 = some ⟨.other, 1, 8, [.nilFunc]⟩ := by kernel_rfl
theorem lay88 : X.lay 88 = some ⟨.other, 1, 8, [.nilFunc]⟩ := by kernel_rfl
theorem lay89 : X.lay 89 = some ⟨.struct [(76, 0), (64, 1)], 6, 128, [.pointer none, .slice none 0 0, .slice none 0 0, .slice none 0 0, .slice none 0 0, .slice none 0 0]⟩ := by kernel_rfl
theorem lay90 : X.lay 90 = some ⟨.struct [(76, 0), (64, 1)], 6, 128, [.pointer none, .slice none 0 0, .slice none 0 0, .slice none 0 0, .slice none 0 0, .slice none 0 0]⟩ := by kernel_rfl
theorem lay92 : X.lay 92 = some ⟨.other, 1, 8, [.nilFunc]⟩ := by kernel_rfl
theorem lay93 : X.lay 93 = some ⟨.struct [(64, 0), (33, 5)], 7, 152, [.slice none 0 0, .slice none 0 0, .slice none 0 0, .slice none 0 0, .slice none 0 0, .int .i64 0, .slice none 0 0]⟩ := by kernel_rfl
theorem lay94 : X.lay 94 = some ⟨.struct [(64, 0), (33, 5)], 7, 152, [.slice none 0 0, .slice none 0 0, .slice none 0 0, .slice none 0 0, .slice none 0 0, .int .i64 0, .slice none 0 0]⟩ := by kernel_rfl
theorem lay95 : X.lay 95 = some ⟨.other, 1, 8, [.nilFunc]⟩ := by kernel_rfl
theorem lay96 : X.lay 96 = some ⟨.other, 1, 8, [.nilFunc]⟩ := by kernel_rfl
theorem lay97 : X.lay 97 = some ⟨.other, 1, 8, [.nilFunc]⟩ := by kernel_rfl
theorem lay98 : X.lay 98 = some ⟨.other, 1, 8, [.nilFunc]⟩ := by kernel_rfl
theorem lay99 : X.lay 99 = some ⟨.other, 1, 8, [.nilFunc]⟩ := by kernel_rfl
theorem lay100 : X.lay 100 = some ⟨.struct [(4, 0), (2, 1), (2, 2), (2, 3)], 4, 32, [.bool false, .int .i64 0, .int .i64 0, .int .i64 0]⟩ := by kernel_rfl
theorem lay101 : X.lay 101 = some ⟨.struct [(4, 0), (2, 1), (2, 2), (2, 3)], 4, 32, [.bool false, .int .i64 0, .int .i64 0, .int .i64 0]⟩ := by kernel_rfl
theorem lay102 : X.lay 102 = some ⟨.other, 1, 8, [.nilFunc]⟩ := by kernel_rfl
theorem lay103 : X.lay 103 = some ⟨.other, 1, 8, [.nilFunc]⟩ := by kernel_rfl
theorem lay104 : X.lay 104 = some ⟨.other, 1, 8, [.nilFunc]⟩ := by kernel_rfl
theorem lay105 : X.lay 105 = some ⟨.other, 1, 8, [.nilFunc]⟩ := by kernel_rfl
theorem lay106 : X.lay 106 = some ⟨.other, 1, 8, [.pointer none]⟩ := by kernel_rfl
theorem lay107 : X.lay 107 = some ⟨.other, 1, 8, [.nilFunc]⟩ := by kernel_rfl
theorem lay108 : X.lay 108 = some ⟨.other, 1, 8, [.nilFunc]⟩ := by kernel_rfl
theorem lay109 : X.lay 109 = some ⟨.other, 1, 8, [.nilFunc]⟩ := by kernel_rfl
theorem lay110 : X.lay 110 = some ⟨.other, 1, 8, [.nilFunc]⟩ := by kernel_rfl
theorem lay111 : X.lay 111 = some ⟨.other, 1, 8, [.nilFunc]⟩ := by kernel_rfl
theorem lay112 : X.lay 112 = some ⟨.other, 1, 8, [.nilFunc]⟩ := by kernel_rfl
theorem lay113 : X.lay 113 = some ⟨.other, 1, 8, [.nilFunc]⟩ := by kernel_rfl
theorem lay114 : X.lay 114 = some ⟨.other, 1, 8, [.nilFunc]⟩ := by kernel_rfl
theorem lay115 : X.lay 115 = some ⟨.other, 1, 8, [.nilFunc]⟩ := by kernel_rfl
theorem lay116 : X.lay 116 = some ⟨.other, 1, 8, [.nilFunc]⟩ := by kernel_rfl
theorem lay117 : X.lay 117 = some ⟨.int .u64, 1, 8, [.int .u64 0]⟩ := by kernel_rfl
theorem lay119 : X.lay 119 = some ⟨.other, 1, 8, [.nilFunc]⟩ := by kernel_rfl
theorem lay120 : X.lay 120 = some ⟨.other, 1, 8, [.nilFunc]⟩ := by kernel_rfl
theorem lay121 : X.lay 121 = some ⟨.other, 1, 8, [.nilFunc]⟩ := by kernel_rfl
theorem lay122 : X.lay 122 = some ⟨.int .u64, 1, 8, [.int .u64 0]⟩ := by kernel_rfl
theorem lay123 : X.lay 123 = some ⟨.struct [(69, 0), (3, 1), (122, 2)], 3, 40, [.slice none 0 0, .int .i64 0, .int .u64 0]⟩ := by kernel_rfl
theorem lay124 : X.lay 124 = some ⟨.struct [(69, 0), (3, 1), (122, 2)], 3, 40, [.slice none 0 0, .int .i64 0, .int .u64 0]⟩ := by kernel_rfl
theorem lay125 : X.lay 125 = some ⟨.other, 1, 8, [.nilFunc]⟩ := by kernel_rfl
theorem lay126 : X.lay 126 = some ⟨.other, 1, 8, [.nilFunc]⟩ := by kernel_rfl
theorem lay127 : X.lay 127 = some ⟨.other, 1, 8, [.nilFunc]⟩ := by kernel_rfl
theorem lay128 : X.lay 128 = some ⟨.other, 1, 8, [.pointer none]⟩ := by kernel_rfl
theorem lay129 : X.lay 129 = some ⟨.other, 1, 8, [.nilFunc]⟩ := by kernel_rfl
theorem lay130 : X.lay 130 = some ⟨.int .u32, 1, 4, [.int .u32 0]⟩ := by kernel_rfl
theorem lay132 : X.lay 132 = some ⟨.other, 1, 8, [.nilFunc]⟩ := by kernel_rfl
theorem lay134 : X.lay 134 = some ⟨.other, 1, 8, [.nilFunc]⟩ := by kernel_rfl
theorem lay135 : X.lay 135 = some ⟨.other, 1, 8, [.nilFunc]⟩ := by kernel_rfl
theorem lay136 : X.lay 136 = some ⟨.other, 1, 8, [.nilFunc]⟩ := by kernel_rfl
theorem lay137 : X.lay 137 = some ⟨.struct [(17, 0), (17, 1), (17, 2), (9, 3)], 4, 40, [.pointer none, .pointer none, .pointer none, .string ⟨#[]⟩]⟩ := by kernel_rfl
theorem lay138 : X.lay 138 = some ⟨.struct [(17, 0), (17, 1), (17, 2), (9, 3)], 4, 40, [.pointer none, .pointer none, .pointer none, .string ⟨#[]⟩]⟩ := by kernel_rfl
theorem lay139 : X.lay 139 = some ⟨.array 0 16, 0, 0, []⟩ := by kernel_rfl
theorem lay142 : X.lay 142 = some ⟨.other, 1, 8, [.nilFunc]⟩ := by kernel_rfl
theorem lay143 : X.lay 143 = some ⟨.int .u8, 1, 1, [.int .u8 0]⟩ := by kernel_rfl
theorem lay144 : X.lay 144 = some ⟨.int .u8, 1, 1, [.int .u8 0]⟩ := by kernel_rfl
theorem lay145 : X.lay 145 = some ⟨.other, 1, 8, [.nilFunc]⟩ := by kernel_rfl
theorem lay146 : X.lay 146 = some ⟨.other, 1, 8, [.pointer none]⟩ := by kernel_rfl
theorem lay147 : X.lay 147 = some ⟨.int .i32, 1, 4, [.int .i32 0]⟩ := by kernel_rfl
theorem lay148 : X.lay 148 = some ⟨.int .i32, 1, 4, [.int .i32 0]⟩ := by kernel_rfl
theorem lay149 : X.lay 149 = some ⟨.struct [(12, 0), (12, 1), (130, 2), (143, 3), (5, 4), (5, 5), (144, 6), (145, 7), (146, 8), (147, 9), (148, 10)], 11, 48, [.int .u64 0, .int .u64 0, .int .u32 0, .int .u8 0, .int .u8 0, .int .u8 0, .int .u8 0, .nilFunc, .pointer none, .int .i32 0, .int .i32 0]⟩ := by kernel_rfl
theorem lay150 : X.lay 150 = some ⟨.struct [(12, 0), (12, 1), (130, 2), (143, 3), (5, 4), (5, 5), (144, 6), (145, 7), (146, 8), (147, 9), (148, 10)], 11, 48, [.int .u64 0, .int .u64 0, .int .u32 0, .int .u8 0, .int .u8 0, .int .u8 0, .int .u8 0, .nilFunc, .pointer none, .int .i32 0, .int .i32 0]⟩ := by kernel_rfl
end Go.VL
