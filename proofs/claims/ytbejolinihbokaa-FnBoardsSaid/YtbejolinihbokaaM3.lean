/- Texts of one proof, put together: X0, C1, C2, J1, J2, G3, G4. -/
import Derived.Test.YtbejolinihbokaaM2
import Derived.Test.YtbejolinihbokaaProg
import Derived.Shelf.RegionOpenPlain
import Derived.WalkKit
import Derived.KernelRfl
import Derived.Lib.Walk
import Derived.Lib.SliceRun
import Derived.Laws.Externs
set_option maxRecDepth 20000
namespace Go.VL
open Go.RowKit
def layT : List (TypeId × Lay) := [
  (1, ⟨.other, 1, 8, [.nilFunc]⟩),
  (2, ⟨.int .i64, 1, 8, [.int .i64 0]⟩),
  (3, ⟨.int .i64, 1, 8, [.int .i64 0]⟩),
  (4, ⟨.bool, 1, 1, [.bool false]⟩),
  (5, ⟨.int .u8, 1, 1, [.int .u8 0]⟩),
  (6, ⟨.int .u8, 1, 1, [.int .u8 0]⟩),
  (7, ⟨.struct [(2, 0), (3, 1), (4, 2), (6, 3)], 4, 24, [.int .i64 0, .int .i64 0, .bool false, .int .u8 0]⟩),
  (8, ⟨.struct [(2, 0), (3, 1), (4, 2), (6, 3)], 4, 24, [.int .i64 0, .int .i64 0, .bool false, .int .u8 0]⟩),
  (9, ⟨.string, 1, 16, [.string ⟨#[]⟩]⟩),
  (10, ⟨.string, 1, 16, [.string ⟨#[]⟩]⟩),
  (11, ⟨.string, 1, 16, [.string ⟨#[]⟩]⟩),
  (12, ⟨.int .u64, 1, 8, [.int .u64 0]⟩),
  (13, ⟨.struct [(9, 0), (12, 1)], 2, 24, [.string ⟨#[]⟩, .int .u64 0]⟩),
  (14, ⟨.struct [(9, 0), (12, 1)], 2, 24, [.string ⟨#[]⟩, .int .u64 0]⟩),
  (15, ⟨.other, 1, 8, [.pointer none]⟩),
  (16, ⟨.other, 1, 8, [.pointer none]⟩),
  (17, ⟨.other, 1, 8, [.pointer none]⟩),
  (18, ⟨.struct [(17, 0)], 1, 8, [.pointer none]⟩),
  (19, ⟨.struct [(17, 0)], 1, 8, [.pointer none]⟩),
  (21, ⟨.int .i32, 1, 4, [.int .i32 0]⟩),
  (22, ⟨.struct [(2, 0), (2, 1), (2, 2)], 3, 24, [.int .i64 0, .int .i64 0, .int .i64 0]⟩),
  (23, ⟨.struct [(2, 0), (2, 1), (2, 2)], 3, 24, [.int .i64 0, .int .i64 0, .int .i64 0]⟩),
  (24, ⟨.other, 1, 8, [.nilFunc]⟩),
  (25, ⟨.struct [(2, 0), (2, 1), (2, 2)], 3, 24, [.int .i64 0, .int .i64 0, .int .i64 0]⟩),
  (26, ⟨.other, 1, 8, [.nilFunc]⟩),
  (27, ⟨.other, 1, 8, [.nilFunc]⟩),
  (28, ⟨.slice 2, 1, 24, [.slice none 0 0]⟩),
  (29, ⟨.struct [(2, 0), (28, 1)], 2, 32, [.int .i64 0, .slice none 0 0]⟩),
  (30, ⟨.struct [(2, 0), (28, 1)], 2, 32, [.int .i64 0, .slice none 0 0]⟩),
  (31, ⟨.other, 1, 8, [.nilFunc]⟩),
  (32, ⟨.other, 1, 8, [.nilFunc]⟩),
  (33, ⟨.struct [(2, 0), (28, 1)], 2, 32, [.int .i64 0, .slice none 0 0]⟩),
  (34, ⟨.other, 1, 8, [.nilFunc]⟩),
  (35, ⟨.other, 1, 8, [.nilFunc]⟩),
  (36, ⟨.other, 1, 8, [.nilFunc]⟩),
  (37, ⟨.slice 23, 1, 24, [.slice none 0 0]⟩),
  (38, ⟨.other, 1, 8, [.nilFunc]⟩),
  (40, ⟨.other, 1, 8, [.nilFunc]⟩),
  (41, ⟨.slice 25, 1, 24, [.slice none 0 0]⟩),
  (42, ⟨.other, 1, 8, [.nilFunc]⟩),
  (43, ⟨.other, 1, 8, [.nilFunc]⟩),
  (44, ⟨.other, 1, 8, [.nilFunc]⟩),
  (45, ⟨.struct [(2, 0), (2, 1)], 2, 16, [.int .i64 0, .int .i64 0]⟩),
  (46, ⟨.struct [(2, 0), (2, 1)], 2, 16, [.int .i64 0, .int .i64 0]⟩),
  (48, ⟨.other, 1, 8, [.nilFunc]⟩),
  (49, ⟨.other, 1, 8, [.nilFunc]⟩),
  (50, ⟨.other, 1, 8, [.nilFunc]⟩),
  (52, ⟨.other, 1, 8, [.nilFunc]⟩),
  (54, ⟨.other, 1, 8, [.nilFunc]⟩),
  (55, ⟨.other, 1, 8, [.nilFunc]⟩),
  (56, ⟨.other, 1, 8, [.nilFunc]⟩),
  (57, ⟨.other, 1, 8, [.nilFunc]⟩),
  (58, ⟨.other, 1, 8, [.nilFunc]⟩),
  (60, ⟨.other, 1, 8, [.nilFunc]⟩),
  (61, ⟨.slice 46, 1, 24, [.slice none 0 0]⟩),
  (62, ⟨.slice 101, 1, 24, [.slice none 0 0]⟩),
  (63, ⟨.struct [(61, 0), (61, 1), (61, 2), (28, 3), (62, 4)], 5, 120, [.slice none 0 0, .slice none 0 0, .slice none 0 0, .slice none 0 0, .slice none 0 0]⟩),
  (64, ⟨.struct [(61, 0), (61, 1), (61, 2), (28, 3), (62, 4)], 5, 120, [.slice none 0 0, .slice none 0 0, .slice none 0 0, .slice none 0 0, .slice none 0 0]⟩),
  (66, ⟨.other, 1, 8, [.nilFunc]⟩),
  (67, ⟨.other, 1, 8, [.nilFunc]⟩),
  (68, ⟨.other, 1, 8, [.nilFunc]⟩),
  (69, ⟨.slice 5, 1, 24, [.slice none 0 0]⟩),
  (70, ⟨.other, 1, 8, [.nilFunc]⟩),
  (71, ⟨.other, 1, 8, [.nilFunc]⟩),
  (72, ⟨.other, 1, 8, [.nilFunc]⟩),
  (73, ⟨.other, 1, 8, [.nilFunc]⟩),
  (74, ⟨.other, 1, 8, [.nilFunc]⟩),
  (75, ⟨.other, 1, 8, [.nilFunc]⟩),
  (76, ⟨.other, 1, 8, [.pointer none]⟩),
  (77, ⟨.other, 1, 8, [.nilFunc]⟩),
  (78, ⟨.other, 1, 8, [.nilFunc]⟩),
  (79, ⟨.other, 1, 8, [.nilFunc]⟩),
  (80, ⟨.other, 1, 8, [.nilFunc]⟩),
  (81, ⟨.other, 1, 8, [.pointer none]⟩),
  (83, ⟨.other, 1, 8, [.nilFunc]⟩),
  (84, ⟨.other, 1, 8, [.nilFunc]⟩),
  (85, ⟨.other, 1, 8, [.pointer none]⟩),
  (86, ⟨.other, 1, 8, [.nilFunc]⟩),
  (87, ⟨.other, 1, 8, [.nilFunc]⟩),
  (88, ⟨.other, 1, 8, [.nilFunc]⟩),
  (89, ⟨.struct [(76, 0), (64, 1)], 6, 128, [.pointer none, .slice none 0 0, .slice none 0 0, .slice none 0 0, .slice none 0 0, .slice none 0 0]⟩),
  (90, ⟨.struct [(76, 0), (64, 1)], 6, 128, [.pointer none, .slice none 0 0, .slice none 0 0, .slice none 0 0, .slice none 0 0, .slice none 0 0]⟩),
  (92, ⟨.other, 1, 8, [.nilFunc]⟩),
  (93, ⟨.struct [(64, 0), (33, 5)], 7, 152, [.slice none 0 0, .slice none 0 0, .slice none 0 0, .slice none 0 0, .slice none 0 0, .int .i64 0, .slice none 0 0]⟩),
  (94, ⟨.struct [(64, 0), (33, 5)], 7, 152, [.slice none 0 0, .slice none 0 0, .slice none 0 0, .slice none 0 0, .slice none 0 0, .int .i64 0, .slice none 0 0]⟩),
  (95, ⟨.other, 1, 8, [.nilFunc]⟩),
  (96, ⟨.other, 1, 8, [.nilFunc]⟩),
  (97, ⟨.other, 1, 8, [.nilFunc]⟩),
  (98, ⟨.other, 1, 8, [.nilFunc]⟩),
  (99, ⟨.other, 1, 8, [.nilFunc]⟩),
  (100, ⟨.struct [(4, 0), (2, 1), (2, 2), (2, 3)], 4, 32, [.bool false, .int .i64 0, .int .i64 0, .int .i64 0]⟩),
  (101, ⟨.struct [(4, 0), (2, 1), (2, 2), (2, 3)], 4, 32, [.bool false, .int .i64 0, .int .i64 0, .int .i64 0]⟩),
  (102, ⟨.other, 1, 8, [.nilFunc]⟩),
  (103, ⟨.other, 1, 8, [.nilFunc]⟩),
  (104, ⟨.other, 1, 8, [.nilFunc]⟩),
  (105, ⟨.other, 1, 8, [.nilFunc]⟩),
  (106, ⟨.other, 1, 8, [.pointer none]⟩),
  (107, ⟨.other, 1, 8, [.nilFunc]⟩),
  (108, ⟨.other, 1, 8, [.nilFunc]⟩),
  (109, ⟨.other, 1, 8, [.nilFunc]⟩),
  (110, ⟨.other, 1, 8, [.nilFunc]⟩),
  (111, ⟨.other, 1, 8, [.nilFunc]⟩),
  (112, ⟨.other, 1, 8, [.nilFunc]⟩),
  (113, ⟨.other, 1, 8, [.nilFunc]⟩),
  (114, ⟨.other, 1, 8, [.nilFunc]⟩),
  (115, ⟨.other, 1, 8, [.nilFunc]⟩),
  (116, ⟨.other, 1, 8, [.nilFunc]⟩),
  (117, ⟨.int .u64, 1, 8, [.int .u64 0]⟩),
  (119, ⟨.other, 1, 8, [.nilFunc]⟩),
  (120, ⟨.other, 1, 8, [.nilFunc]⟩),
  (121, ⟨.other, 1, 8, [.nilFunc]⟩),
  (122, ⟨.int .u64, 1, 8, [.int .u64 0]⟩),
  (123, ⟨.struct [(69, 0), (3, 1), (122, 2)], 3, 40, [.slice none 0 0, .int .i64 0, .int .u64 0]⟩),
  (124, ⟨.struct [(69, 0), (3, 1), (122, 2)], 3, 40, [.slice none 0 0, .int .i64 0, .int .u64 0]⟩),
  (125, ⟨.other, 1, 8, [.nilFunc]⟩),
  (126, ⟨.other, 1, 8, [.nilFunc]⟩),
  (127, ⟨.other, 1, 8, [.nilFunc]⟩),
  (128, ⟨.other, 1, 8, [.pointer none]⟩),
  (129, ⟨.other, 1, 8, [.nilFunc]⟩),
  (130, ⟨.int .u32, 1, 4, [.int .u32 0]⟩),
  (132, ⟨.other, 1, 8, [.nilFunc]⟩),
  (134, ⟨.other, 1, 8, [.nilFunc]⟩),
  (135, ⟨.other, 1, 8, [.nilFunc]⟩),
  (136, ⟨.other, 1, 8, [.nilFunc]⟩),
  (137, ⟨.struct [(17, 0), (17, 1), (17, 2), (9, 3)], 4, 40, [.pointer none, .pointer none, .pointer none, .string ⟨#[]⟩]⟩),
  (138, ⟨.struct [(17, 0), (17, 1), (17, 2), (9, 3)], 4, 40, [.pointer none, .pointer none, .pointer none, .string ⟨#[]⟩]⟩),
  (139, ⟨.array 0 16, 0, 0, []⟩),
  (142, ⟨.other, 1, 8, [.nilFunc]⟩),
  (143, ⟨.int .u8, 1, 1, [.int .u8 0]⟩),
  (144, ⟨.int .u8, 1, 1, [.int .u8 0]⟩),
  (145, ⟨.other, 1, 8, [.nilFunc]⟩),
  (146, ⟨.other, 1, 8, [.pointer none]⟩),
  (147, ⟨.int .i32, 1, 4, [.int .i32 0]⟩),
  (148, ⟨.int .i32, 1, 4, [.int .i32 0]⟩),
  (149, ⟨.struct [(12, 0), (12, 1), (130, 2), (143, 3), (5, 4), (5, 5), (144, 6), (145, 7), (146, 8), (147, 9), (148, 10)], 11, 48, [.int .u64 0, .int .u64 0, .int .u32 0, .int .u8 0, .int .u8 0, .int .u8 0, .int .u8 0, .nilFunc, .pointer none, .int .i32 0, .int .i32 0]⟩),
  (150, ⟨.struct [(12, 0), (12, 1), (130, 2), (143, 3), (5, 4), (5, 5), (144, 6), (145, 7), (146, 8), (147, 9), (148, 10)], 11, 48, [.int .u64 0, .int .u64 0, .int .u32 0, .int .u8 0, .int .u8 0, .int .u8 0, .int .u8 0, .nilFunc, .pointer none, .int .i32 0, .int .i32 0]⟩)]
theorem layT_ok : ∀ p ∈ layT, layOf Go.Proofs.Try.prog p.1 = some p.2 := by
  unfold layT
  refine List.forall_mem_cons.2 ⟨by kernel_rfl, ?_⟩
  refine List.forall_mem_cons.2 ⟨by kernel_rfl, ?_⟩
  refine List.forall_mem_cons.2 ⟨by kernel_rfl, ?_⟩
  refine List.forall_mem_cons.2 ⟨by kernel_rfl, ?_⟩
  refine List.forall_mem_cons.2 ⟨by kernel_rfl, ?_⟩
  refine List.forall_mem_cons.2 ⟨by kernel_rfl, ?_⟩
  refine List.forall_mem_cons.2 ⟨by kernel_rfl, ?_⟩
  refine List.forall_mem_cons.2 ⟨by kernel_rfl, ?_⟩
  refine List.forall_mem_cons.2 ⟨by kernel_rfl, ?_⟩
  refine List.forall_mem_cons.2 ⟨by kernel_rfl, ?_⟩
  refine List.forall_mem_cons.2 ⟨by kernel_rfl, ?_⟩
  refine List.forall_mem_cons.2 ⟨by kernel_rfl, ?_⟩
  refine List.forall_mem_cons.2 ⟨by kernel_rfl, ?_⟩
  refine List.forall_mem_cons.2 ⟨by kernel_rfl, ?_⟩
  refine List.forall_mem_cons.2 ⟨by kernel_rfl, ?_⟩
  refine List.forall_mem_cons.2 ⟨by kernel_rfl, ?_⟩
  refine List.forall_mem_cons.2 ⟨by kernel_rfl, ?_⟩
  refine List.forall_mem_cons.2 ⟨by kernel_rfl, ?_⟩
  refine List.forall_mem_cons.2 ⟨by kernel_rfl, ?_⟩
  refine List.forall_mem_cons.2 ⟨by kernel_rfl, ?_⟩
  refine List.forall_mem_cons.2 ⟨by kernel_rfl, ?_⟩
  refine List.forall_mem_cons.2 ⟨by kernel_rfl, ?_⟩
  refine List.forall_mem_cons.2 ⟨by kernel_rfl, ?_⟩
  refine List.forall_mem_cons.2 ⟨by kernel_rfl, ?_⟩
  refine List.forall_mem_cons.2 ⟨by kernel_rfl, ?_⟩
  refine List.forall_mem_cons.2 ⟨by kernel_rfl, ?_⟩
  refine List.forall_mem_cons.2 ⟨by kernel_rfl, ?_⟩
  refine List.forall_mem_cons.2 ⟨by kernel_rfl, ?_⟩
  refine List.forall_mem_cons.2 ⟨by kernel_rfl, ?_⟩
  refine List.forall_mem_cons.2 ⟨by kernel_rfl, ?_⟩
  refine List.forall_mem_cons.2 ⟨by kernel_rfl, ?_⟩
  refine List.forall_mem_cons.2 ⟨by kernel_rfl, ?_⟩
  refine List.forall_mem_cons.2 ⟨by kernel_rfl, ?_⟩
  refine List.forall_mem_cons.2 ⟨by kernel_rfl, ?_⟩
  refine List.forall_mem_cons.2 ⟨by kernel_rfl, ?_⟩
  refine List.forall_mem_cons.2 ⟨by kernel_rfl, ?_⟩
  refine List.forall_mem_cons.2 ⟨by kernel_rfl, ?_⟩
  refine List.forall_mem_cons.2 ⟨by kernel_rfl, ?_⟩
  refine List.forall_mem_cons.2 ⟨by kernel_rfl, ?_⟩
  refine List.forall_mem_cons.2 ⟨by kernel_rfl, ?_⟩
  refine List.forall_mem_cons.2 ⟨by kernel_rfl, ?_⟩
  refine List.forall_mem_cons.2 ⟨by kernel_rfl, ?_⟩
  refine List.forall_mem_cons.2 ⟨by kernel_rfl, ?_⟩
  refine List.forall_mem_cons.2 ⟨by kernel_rfl, ?_⟩
  refine List.forall_mem_cons.2 ⟨by kernel_rfl, ?_⟩
  refine List.forall_mem_cons.2 ⟨by kernel_rfl, ?_⟩
  refine List.forall_mem_cons.2 ⟨by kernel_rfl, ?_⟩
  refine List.forall_mem_cons.2 ⟨by kernel_rfl, ?_⟩
  refine List.forall_mem_cons.2 ⟨by kernel_rfl, ?_⟩
  refine List.forall_mem_cons.2 ⟨by kernel_rfl, ?_⟩
  refine List.forall_mem_cons.2 ⟨by kernel_rfl, ?_⟩
  refine List.forall_mem_cons.2 ⟨by kernel_rfl, ?_⟩
  refine List.forall_mem_cons.2 ⟨by kernel_rfl, ?_⟩
  refine List.forall_mem_cons.2 ⟨by kernel_rfl, ?_⟩
  refine List.forall_mem_cons.2 ⟨by kernel_rfl, ?_⟩
  refine List.forall_mem_cons.2 ⟨by kernel_rfl, ?_⟩
  refine List.forall_mem_cons.2 ⟨by kernel_rfl, ?_⟩
  refine List.forall_mem_cons.2 ⟨by kernel_rfl, ?_⟩
  refine List.forall_mem_cons.2 ⟨by kernel_rfl, ?_⟩
  refine List.forall_mem_cons.2 ⟨by kernel_rfl, ?_⟩
  refine List.forall_mem_cons.2 ⟨by kernel_rfl, ?_⟩
  refine List.forall_mem_cons.2 ⟨by kernel_rfl, ?_⟩
  refine List.forall_mem_cons.2 ⟨by kernel_rfl, ?_⟩
  refine List.forall_mem_cons.2 ⟨by kernel_rfl, ?_⟩
  refine List.forall_mem_cons.2 ⟨by kernel_rfl, ?_⟩
  refine List.forall_mem_cons.2 ⟨by kernel_rfl, ?_⟩
  refine List.forall_mem_cons.2 ⟨by kernel_rfl, ?_⟩
  refine List.forall_mem_cons.2 ⟨by kernel_rfl, ?_⟩
  refine List.forall_mem_cons.2 ⟨by kernel_rfl, ?_⟩
  refine List.forall_mem_cons.2 ⟨by kernel_rfl, ?_⟩
  refine List.forall_mem_cons.2 ⟨by kernel_rfl, ?_⟩
  refine List.forall_mem_cons.2 ⟨by kernel_rfl, ?_⟩
  refine List.forall_mem_cons.2 ⟨by kernel_rfl, ?_⟩
  refine List.forall_mem_cons.2 ⟨by kernel_rfl, ?_⟩
  refine List.forall_mem_cons.2 ⟨by kernel_rfl, ?_⟩
  refine List.forall_mem_cons.2 ⟨by kernel_rfl, ?_⟩
  refine List.forall_mem_cons.2 ⟨by kernel_rfl, ?_⟩
  refine List.forall_mem_cons.2 ⟨by kernel_rfl, ?_⟩
  refine List.forall_mem_cons.2 ⟨by kernel_rfl, ?_⟩
  refine List.forall_mem_cons.2 ⟨by kernel_rfl, ?_⟩
  refine List.forall_mem_cons.2 ⟨by kernel_rfl, ?_⟩
  refine List.forall_mem_cons.2 ⟨by kernel_rfl, ?_⟩
  refine List.forall_mem_cons.2 ⟨by kernel_rfl, ?_⟩
  refine List.forall_mem_cons.2 ⟨by kernel_rfl, ?_⟩
  refine List.forall_mem_cons.2 ⟨by kernel_rfl, ?_⟩
  refine List.forall_mem_cons.2 ⟨by kernel_rfl, ?_⟩
  refine List.forall_mem_cons.2 ⟨by kernel_rfl, ?_⟩
  refine List.forall_mem_cons.2 ⟨by kernel_rfl, ?_⟩
  refine List.forall_mem_cons.2 ⟨by kernel_rfl, ?_⟩
  refine List.forall_mem_cons.2 ⟨by kernel_rfl, ?_⟩
  refine List.forall_mem_cons.2 ⟨by kernel_rfl, ?_⟩
  refine List.forall_mem_cons.2 ⟨by kernel_rfl, ?_⟩
  refine List.forall_mem_cons.2 ⟨by kernel_rfl, ?_⟩
  refine List.forall_mem_cons.2 ⟨by kernel_rfl, ?_⟩
  refine List.forall_mem_cons.2 ⟨by kernel_rfl, ?_⟩
  refine List.forall_mem_cons.2 ⟨by kernel_rfl, ?_⟩
  refine List.forall_mem_cons.2 ⟨by kernel_rfl, ?_⟩
  refine List.forall_mem_cons.2 ⟨by kernel_rfl, ?_⟩
  refine List.forall_mem_cons.2 ⟨by kernel_rfl, ?_⟩
  refine List.forall_mem_cons.2 ⟨by kernel_rfl, ?_⟩
  refine List.forall_mem_cons.2 ⟨by kernel_rfl, ?_⟩
  refine List.forall_mem_cons.2 ⟨by kernel_rfl, ?_⟩
  refine List.forall_mem_cons.2 ⟨by kernel_rfl, ?_⟩
  refine List.forall_mem_cons.2 ⟨by kernel_rfl, ?_⟩
  refine List.forall_mem_cons.2 ⟨by kernel_rfl, ?_⟩
  refine List.forall_mem_cons.2 ⟨by kernel_rfl, ?_⟩
  refine List.forall_mem_cons.2 ⟨by kernel_rfl, ?_⟩
  refine List.forall_mem_cons.2 ⟨by kernel_rfl, ?_⟩
  refine List.forall_mem_cons.2 ⟨by kernel_rfl, ?_⟩
  refine List.forall_mem_cons.2 ⟨by kernel_rfl, ?_⟩
  refine List.forall_mem_cons.2 ⟨by kernel_rfl, ?_⟩
  refine List.forall_mem_cons.2 ⟨by kernel_rfl, ?_⟩
  refine List.forall_mem_cons.2 ⟨by kernel_rfl, ?_⟩
  refine List.forall_mem_cons.2 ⟨by kernel_rfl, ?_⟩
  refine List.forall_mem_cons.2 ⟨by kernel_rfl, ?_⟩
  refine List.forall_mem_cons.2 ⟨by kernel_rfl, ?_⟩
  refine List.forall_mem_cons.2 ⟨by kernel_rfl, ?_⟩
  refine List.forall_mem_cons.2 ⟨by kernel_rfl, ?_⟩
  refine List.forall_mem_cons.2 ⟨by kernel_rfl, ?_⟩
  refine List.forall_mem_cons.2 ⟨by kernel_rfl, ?_⟩
  refine List.forall_mem_cons.2 ⟨by kernel_rfl, ?_⟩
  refine List.forall_mem_cons.2 ⟨by kernel_rfl, ?_⟩
  refine List.forall_mem_cons.2 ⟨by kernel_rfl, ?_⟩
  refine List.forall_mem_cons.2 ⟨by kernel_rfl, ?_⟩
  refine List.forall_mem_cons.2 ⟨by kernel_rfl, ?_⟩
  refine List.forall_mem_cons.2 ⟨by kernel_rfl, ?_⟩
  refine List.forall_mem_cons.2 ⟨by kernel_rfl, ?_⟩
  refine List.forall_mem_cons.2 ⟨by kernel_rfl, ?_⟩
  refine List.forall_mem_cons.2 ⟨by kernel_rfl, ?_⟩
  refine List.forall_mem_cons.2 ⟨by kernel_rfl, ?_⟩
  refine List.forall_mem_cons.2 ⟨by kernel_rfl, ?_⟩
  refine List.forall_mem_cons.2 ⟨by kernel_rfl, ?_⟩
  refine List.forall_mem_cons.2 ⟨by kernel_rfl, ?_⟩
  refine List.forall_mem_cons.2 ⟨by kernel_rfl, ?_⟩
  refine List.forall_mem_cons.2 ⟨by kernel_rfl, ?_⟩
  refine List.forall_mem_cons.2 ⟨by kernel_rfl, ?_⟩
  exact fun p hp => absurd hp List.not_mem_nil
theorem mem_of_lookup {t : TypeId} {L : Lay} : ∀ {l : List (TypeId × Lay)}, l.lookup t = some L → (t, L) ∈ l
  | [], h => by simp at h
  | (a, b) :: l, h => by
    simp only [List.lookup] at h
    split at h
    · rename_i he
      simp only [beq_iff_eq, Option.some.injEq] at he h
      subst he h
      exact List.mem_cons_self
    · exact List.mem_cons_of_mem _ (mem_of_lookup h)
noncomputable def X : Cx := ⟨Go.Proofs.Try.prog, fun t => layT.lookup t, fun t L h => layOf_ok (layT_ok (t, L) (mem_of_lookup h)), [], by kernel_rfl⟩
theorem lay1 : X.lay 1 = some ⟨.other, 1, 8, [.nilFunc]⟩ := by kernel_rfl
theorem lay2 : X.lay 2 = some ⟨.int .i64, 1, 8, [.int .i64 0]⟩ := by kernel_rfl
theorem lay3 : X.lay 3 = some ⟨.int .i64, 1, 8, [.int .i64 0]⟩ := by kernel_rfl
theorem lay4 : X.lay 4 = some ⟨.bool, 1, 1, [.bool false]⟩ := by kernel_rfl
theorem lay5 : X.lay 5 = some ⟨.int .u8, 1, 1, [.int .u8 0]⟩ := by kernel_rfl
theorem lay6 : X.lay 6 = some ⟨.int .u8, 1, 1, [.int .u8 0]⟩ := by kernel_rfl
theorem lay7 : X.lay 7 = some ⟨.struct [(2, 0), (3, 1), (4, 2), (6, 3)], 4, 24, [.int .i64 0, .int .i64 0, .bool false, .int .u8 0]⟩ := by kernel_rfl
theorem lay8 : X.lay 8 = some ⟨.struct [(2, 0), (3, 1), (4, 2), (6, 3)], 4, 24, [.int .i64 0, .int .i64 0, .bool false, .int .u8 0]⟩ := by kernel_rfl
theorem lay9 : X.lay 9 = some ⟨.string, 1, 16, [.string ⟨#[]⟩]⟩ := by kernel_rfl
theorem lay10 : X.lay 10 = some ⟨.string, 1, 16, [.string ⟨#[]⟩]⟩ := by kernel_rfl
theorem lay11 : X.lay 11 = some ⟨.string, 1, 16, [.string ⟨#[]⟩]⟩ := by kernel_rfl
theorem lay12 : X.lay 12 = some ⟨.int .u64, 1, 8, [.int .u64 0]⟩ := by kernel_rfl
theorem lay13 : X.lay 13 = some ⟨.struct [(9, 0), (12, 1)], 2, 24, [.string ⟨#[]⟩, .int .u64 0]⟩ := by kernel_rfl
theorem lay14 : X.lay 14 = some ⟨.struct [(9, 0), (12, 1)], 2, 24, [.string ⟨#[]⟩, .int .u64 0]⟩ := by kernel_rfl
theorem lay15 : X.lay 15 = some ⟨.other, 1, 8, [.pointer none]⟩ := by kernel_rfl
theorem lay16 : X.lay 16 = some ⟨.other, 1, 8, [.pointer none]⟩ := by kernel_rfl
theorem lay17 : X.lay 17 = some ⟨.other, 1, 8, [.pointer none]⟩ := by kernel_rfl
theorem lay18 : X.lay 18 = some ⟨.struct [(17, 0)], 1, 8, [.pointer none]⟩ := by kernel_rfl
theorem lay19 : X.lay 19 = some ⟨.struct [(17, 0)], 1, 8, [.pointer none]⟩ := by kernel_rfl
theorem lay21 : X.lay 21 = some ⟨.int .i32, 1, 4, [.int .i32 0]⟩ := by kernel_rfl
theorem lay22 : X.lay 22 = some ⟨.struct [(2, 0), (2, 1), (2, 2)], 3, 24, [.int .i64 0, .int .i64 0, .int .i64 0]⟩ := by kernel_rfl
theorem lay23 : X.lay 23 = some ⟨.struct [(2, 0), (2, 1), (2, 2)], 3, 24, [.int .i64 0, .int .i64 0, .int .i64 0]⟩ := by kernel_rfl
theorem lay24 : X.lay 24 = some ⟨.other, 1, 8, [.nilFunc]⟩ := by kernel_rfl
theorem lay25 : X.lay 25 = some ⟨.struct [(2, 0), (2, 1), (2, 2)], 3, 24, [.int .i64 0, .int .i64 0, .int .i64 0]⟩ := by kernel_rfl
theorem lay26 : X.lay 26 = some ⟨.other, 1, 8, [.nilFunc]⟩ := by kernel_rfl
theorem lay27 : X.lay 27 = some ⟨.other, 1, 8, [.nilFunc]⟩ := by kernel_rfl
theorem lay28 : X.lay 28 = some ⟨.slice 2, 1, 24, [.slice none 0 0]⟩ := by kernel_rfl
theorem lay29 : X.lay 29 = some ⟨.struct [(2, 0), (28, 1)], 2, 32, [.int .i64 0, .slice none 0 0]⟩ := by kernel_rfl
theorem lay30 : X.lay 30 = some ⟨.struct [(2, 0), (28, 1)], 2, 32, [.int .i64 0, .slice none 0 0]⟩ := by kernel_rfl
theorem lay31 : X.lay 31 = some ⟨.other, 1, 8, [.nilFunc]⟩ := by kernel_rfl
theorem lay32 : X.lay 32 = some ⟨.other, 1, 8, [.nilFunc]⟩ := by kernel_rfl
theorem lay33 : X.lay 33 = some ⟨.struct [(2, 0), (28, 1)], 2, 32, [.int .i64 0, .slice none 0 0]⟩ := by kernel_rfl
theorem lay34 : X.lay 34 = some ⟨.other, 1, 8, [.nilFunc]⟩ := by kernel_rfl
theorem lay35 : X.lay 35 = some ⟨.other, 1, 8, [.nilFunc]⟩ := by kernel_rfl
theorem lay36 : X.lay 36 = some ⟨.other, 1, 8, [.nilFunc]⟩ := by kernel_rfl
theorem lay37 : X.lay 37 = some ⟨.slice 23, 1, 24, [.slice none 0 0]⟩ := by kernel_rfl
theorem lay38 : X.lay 38 = some ⟨.other, 1, 8, [.nilFunc]⟩ := by kernel_rfl
theorem lay40 : X.lay 40 = some ⟨.other, 1, 8, [.nilFunc]⟩ := by kernel_rfl
theorem lay41 : X.lay 41 = some ⟨.slice 25, 1, 24, [.slice none 0 0]⟩ := by kernel_rfl
theorem lay42 : X.lay 42 = some ⟨.other, 1, 8, [.nilFunc]⟩ := by kernel_rfl
theorem lay43 : X.lay 43 = some ⟨.other, 1, 8, [.nilFunc]⟩ := by kernel_rfl
theorem lay44 : X.lay 44 = some ⟨.other, 1, 8, [.nilFunc]⟩ := by kernel_rfl
theorem lay45 : X.lay 45 = some ⟨.struct [(2, 0), (2, 1)], 2, 16, [.int .i64 0, .int .i64 0]⟩ := by kernel_rfl
theorem lay46 : X.lay 46 = some ⟨.struct [(2, 0), (2, 1)], 2, 16, [.int .i64 0, .int .i64 0]⟩ := by kernel_rfl
theorem lay48 : X.lay 48 = some ⟨.other, 1, 8, [.nilFunc]⟩ := by kernel_rfl
theorem lay49 : X.lay 49 = some ⟨.other, 1, 8, [.nilFunc]⟩ := by kernel_rfl
theorem lay50 : X.lay 50 = some ⟨.other, 1, 8, [.nilFunc]⟩ := by kernel_rfl
theorem lay52 : X.lay 52 = some ⟨.other, 1, 8, [.nilFunc]⟩ := by kernel_rfl
theorem lay54 : X.lay 54 = some ⟨.other, 1, 8, [.nilFunc]⟩ := by kernel_rfl
theorem lay55 : X.lay 55 = some ⟨.other, 1, 8, [.nilFunc]⟩ := by kernel_rfl
theorem lay56 : X.lay 56 = some ⟨.other, 1, 8, [.nilFunc]⟩ := by kernel_rfl
theorem lay57 : X.lay 57 = some ⟨.other, 1, 8, [.nilFunc]⟩ := by kernel_rfl
theorem lay58 : X.lay 58 = some ⟨.other, 1, 8, [.nilFunc]⟩ := by kernel_rfl
theorem lay60 : X.lay 60 = some ⟨.other, 1, 8, [.nilFunc]⟩ := by kernel_rfl
theorem lay61 : X.lay 61 = some ⟨.slice 46, 1, 24, [.slice none 0 0]⟩ := by kernel_rfl
theorem lay62 : X.lay 62 = some ⟨.slice 101, 1, 24, [.slice none 0 0]⟩ := by kernel_rfl
theorem lay63 : X.lay 63 = some ⟨.struct [(61, 0), (61, 1), (61, 2), (28, 3), (62, 4)], 5, 120, [.slice none 0 0, .slice none 0 0, .slice none 0 0, .slice none 0 0, .slice none 0 0]⟩ := by kernel_rfl
theorem lay64 : X.lay 64 = some ⟨.struct [(61, 0), (61, 1), (61, 2), (28, 3), (62, 4)], 5, 120, [.slice none 0 0, .slice none 0 0, .slice none 0 0, .slice none 0 0, .slice none 0 0]⟩ := by kernel_rfl
theorem lay66 : X.lay 66 = some ⟨.other, 1, 8, [.nilFunc]⟩ := by kernel_rfl
theorem lay67 : X.lay 67 = some ⟨.other, 1, 8, [.nilFunc]⟩ := by kernel_rfl
theorem lay68 : X.lay 68 = some ⟨.other, 1, 8, [.nilFunc]⟩ := by kernel_rfl
theorem lay69 : X.lay 69 = some ⟨.slice 5, 1, 24, [.slice none 0 0]⟩ := by kernel_rfl
theorem lay70 : X.lay 70 = some ⟨.other, 1, 8, [.nilFunc]⟩ := by kernel_rfl
theorem lay71 : X.lay 71 = some ⟨.other, 1, 8, [.nilFunc]⟩ := by kernel_rfl
theorem lay72 : X.lay 72 = some ⟨.other, 1, 8, [.nilFunc]⟩ := by kernel_rfl
theorem lay73 : X.lay 73 = some ⟨.other, 1, 8, [.nilFunc]⟩ := by kernel_rfl
theorem lay74 : X.lay 74 = some ⟨.other, 1, 8, [.nilFunc]⟩ := by kernel_rfl
theorem lay75 : X.lay 75 = some ⟨.other, 1, 8, [.nilFunc]⟩ := by kernel_rfl
theorem lay76 : X.lay 76 = some ⟨.other, 1, 8, [.pointer none]⟩ := by kernel_rfl
theorem lay77 : X.lay 77 = some ⟨.other, 1, 8, [.nilFunc]⟩ := by kernel_rfl
theorem lay78 : X.lay 78 = some ⟨.other, 1, 8, [.nilFunc]⟩ := by kernel_rfl
theorem lay79 : X.lay 79 = some ⟨.other, 1, 8, [.nilFunc]⟩ := by kernel_rfl
theorem lay80 : X.lay 80 = some ⟨.other, 1, 8, [.nilFunc]⟩ := by kernel_rfl
theorem lay81 : X.lay 81 = some ⟨.other, 1, 8, [.pointer none]⟩ := by kernel_rfl
theorem lay83 : X.lay 83 = some ⟨.other, 1, 8, [.nilFunc]⟩ := by kernel_rfl
theorem lay84 : X.lay 84 = some ⟨.other, 1, 8, [.nilFunc]⟩ := by kernel_rfl
theorem lay85 : X.lay 85 = some ⟨.other, 1, 8, [.pointer none]⟩ := by kernel_rfl
theorem lay86 : X.lay 86 = some ⟨.other, 1, 8, [.nilFunc]⟩ := by kernel_rfl
theorem lay87 : X.lay 87 = some ⟨.other, 1, 8, [.nilFunc]⟩ := by kernel_rfl
theorem lay88 : X.lay 88 = some ⟨.other, 1, 8, [.nilFunc]⟩ := by kernel_rfl
theorem lay89 : X.lay 89 = some ⟨.struct [(76, 0), (64, 1)], 6, 128, [.pointer none, .slice none 0 0, .slice none 0 0, .slice none 0 0, .slice none 0 0, .slice none 0 0]⟩ := by kernel_rfl
theorem lay90 : X.lay 90 = some ⟨.struct [(76, 0), (64, 1)], 6, 128, [.pointer none, .slice none 0 0, .slice none 0 0, .slice none 0 0, .slice none 0 0, .slice none 0 0]⟩ := by kernel_rfl
theorem lay92 : X.lay 92 = some ⟨.other, 1, 8, [.nilFunc]⟩ := by kernel_rfl
theorem lay93 : X.lay 93 = some ⟨.struct [(64, 0), (33, 5)], 7, 152, [.slice none 0 0, .slice none 0 0, .slice none 0 0, .slice none 0 0, .slice none 0 0, .int .i64 0, .slice none 0 0]⟩ := by kernel_rfl
theorem lay94 : X.lay 94 = some ⟨.struct [(64, 0), (33, 5)], 7, 152, [.slice none 0 0, .slice none 0 0, .slice none 0 0, .slice none 0 0, .slice none 0 0, .int .i64 0, .slice none 0 0]⟩ := by kernel_rfl
theorem lay95 : X.lay 95 = some ⟨.other, 1, 8, [.nilFunc]⟩ := by kernel_rfl
theorem lay96 : X.lay 96 = some ⟨.other, 1, 8, [.nilFunc]⟩ := by kernel_rfl
theorem lay97 : X.lay 97 = some ⟨.other, 1, 8, [.nilFunc]⟩ := by kernel_rfl
theorem lay98 : X.lay 98 = some ⟨.other, 1, 8, [.nilFunc]⟩ := by kernel_rfl
theorem lay99 : X.lay 99 = some ⟨.other, 1, 8, [.nilFunc]⟩ := by kernel_rfl
theorem lay100 : X.lay 100 = some ⟨.struct [(4, 0), (2, 1), (2, 2), (2, 3)], 4, 32, [.bool false, .int .i64 0, .int .i64 0, .int .i64 0]⟩ := by kernel_rfl
theorem lay101 : X.lay 101 = some ⟨.struct [(4, 0), (2, 1), (2, 2), (2, 3)], 4, 32, [.bool false, .int .i64 0, .int .i64 0, .int .i64 0]⟩ := by kernel_rfl
theorem lay102 : X.lay 102 = some ⟨.other, 1, 8, [.nilFunc]⟩ := by kernel_rfl
theorem lay103 : X.lay 103 = some ⟨.other, 1, 8, [.nilFunc]⟩ := by kernel_rfl
theorem lay104 : X.lay 104 = some ⟨.other, 1, 8, [.nilFunc]⟩ := by kernel_rfl
theorem lay105 : X.lay 105 = some ⟨.other, 1, 8, [.nilFunc]⟩ := by kernel_rfl
theorem lay106 : X.lay 106 = some ⟨.other, 1, 8, [.pointer none]⟩ := by kernel_rfl
theorem lay107 : X.lay 107 = some ⟨.other, 1, 8, [.nilFunc]⟩ := by kernel_rfl
theorem lay108 : X.lay 108 = some ⟨.other, 1, 8, [.nilFunc]⟩ := by kernel_rfl
theorem lay109 : X.lay 109 = some ⟨.other, 1, 8, [.nilFunc]⟩ := by kernel_rfl
theorem lay110 : X.lay 110 = some ⟨.other, 1, 8, [.nilFunc]⟩ := by kernel_rfl
theorem lay111 : X.lay 111 = some ⟨.other, 1, 8, [.nilFunc]⟩ := by kernel_rfl
theorem lay112 : X.lay 112 = some ⟨.other, 1, 8, [.nilFunc]⟩ := by kernel_rfl
theorem lay113 : X.lay 113 = some ⟨.other, 1, 8, [.nilFunc]⟩ := by kernel_rfl
theorem lay114 : X.lay 114 = some ⟨.other, 1, 8, [.nilFunc]⟩ := by kernel_rfl
theorem lay115 : X.lay 115 = some ⟨.other, 1, 8, [.nilFunc]⟩ := by kernel_rfl
theorem lay116 : X.lay 116 = some ⟨.other, 1, 8, [.nilFunc]⟩ := by kernel_rfl
theorem lay117 : X.lay 117 = some ⟨.int .u64, 1, 8, [.int .u64 0]⟩ := by kernel_rfl
theorem lay119 : X.lay 119 = some ⟨.other, 1, 8, [.nilFunc]⟩ := by kernel_rfl
theorem lay120 : X.lay 120 = some ⟨.other, 1, 8, [.nilFunc]⟩ := by kernel_rfl
theorem lay121 : X.lay 121 = some ⟨.other, 1, 8, [.nilFunc]⟩ := by kernel_rfl
theorem lay122 : X.lay 122 = some ⟨.int .u64, 1, 8, [.int .u64 0]⟩ := by kernel_rfl
theorem lay123 : X.lay 123 = some ⟨.struct [(69, 0), (3, 1), (122, 2)], 3, 40, [.slice none 0 0, .int .i64 0, .int .u64 0]⟩ := by kernel_rfl
theorem lay124 : X.lay 124 = some ⟨.struct [(69, 0), (3, 1), (122, 2)], 3, 40, [.slice none 0 0, .int .i64 0, .int .u64 0]⟩ := by kernel_rfl
theorem lay125 : X.lay 125 = some ⟨.other, 1, 8, [.nilFunc]⟩ := by kernel_rfl
theorem lay126 : X.lay 126 = some ⟨.other, 1, 8, [.nilFunc]⟩ := by kernel_rfl
theorem lay127 : X.lay 127 = some ⟨.other, 1, 8, [.nilFunc]⟩ := by kernel_rfl
theorem lay128 : X.lay 128 = some ⟨.other, 1, 8, [.pointer none]⟩ := by kernel_rfl
theorem lay129 : X.lay 129 = some ⟨.other, 1, 8, [.nilFunc]⟩ := by kernel_rfl
theorem lay130 : X.lay 130 = some ⟨.int .u32, 1, 4, [.int .u32 0]⟩ := by kernel_rfl
theorem lay132 : X.lay 132 = some ⟨.other, 1, 8, [.nilFunc]⟩ := by kernel_rfl
theorem lay134 : X.lay 134 = some ⟨.other, 1, 8, [.nilFunc]⟩ := by kernel_rfl
theorem lay135 : X.lay 135 = some ⟨.other, 1, 8, [.nilFunc]⟩ := by kernel_rfl
theorem lay136 : X.lay 136 = some ⟨.other, 1, 8, [.nilFunc]⟩ := by kernel_rfl
theorem lay137 : X.lay 137 = some ⟨.struct [(17, 0), (17, 1), (17, 2), (9, 3)], 4, 40, [.pointer none, .pointer none, .pointer none, .string ⟨#[]⟩]⟩ := by kernel_rfl
theorem lay138 : X.lay 138 = some ⟨.struct [(17, 0), (17, 1), (17, 2), (9, 3)], 4, 40, [.pointer none, .pointer none, .pointer none, .string ⟨#[]⟩]⟩ := by kernel_rfl
theorem lay139 : X.lay 139 = some ⟨.array 0 16, 0, 0, []⟩ := by kernel_rfl
theorem lay142 : X.lay 142 = some ⟨.other, 1, 8, [.nilFunc]⟩ := by kernel_rfl
theorem lay143 : X.lay 143 = some ⟨.int .u8, 1, 1, [.int .u8 0]⟩ := by kernel_rfl
theorem lay144 : X.lay 144 = some ⟨.int .u8, 1, 1, [.int .u8 0]⟩ := by kernel_rfl
theorem lay145 : X.lay 145 = some ⟨.other, 1, 8, [.nilFunc]⟩ := by kernel_rfl
theorem lay146 : X.lay 146 = some ⟨.other, 1, 8, [.pointer none]⟩ := by kernel_rfl
theorem lay147 : X.lay 147 = some ⟨.int .i32, 1, 4, [.int .i32 0]⟩ := by kernel_rfl
theorem lay148 : X.lay 148 = some ⟨.int .i32, 1, 4, [.int .i32 0]⟩ := by kernel_rfl
theorem lay149 : X.lay 149 = some ⟨.struct [(12, 0), (12, 1), (130, 2), (143, 3), (5, 4), (5, 5), (144, 6), (145, 7), (146, 8), (147, 9), (148, 10)], 11, 48, [.int .u64 0, .int .u64 0, .int .u32 0, .int .u8 0, .int .u8 0, .int .u8 0, .int .u8 0, .nilFunc, .pointer none, .int .i32 0, .int .i32 0]⟩ := by kernel_rfl
theorem lay150 : X.lay 150 = some ⟨.struct [(12, 0), (12, 1), (130, 2), (143, 3), (5, 4), (5, 5), (144, 6), (145, 7), (146, 8), (147, 9), (148, 10)], 11, 48, [.int .u64 0, .int .u64 0, .int .u32 0, .int .u8 0, .int .u8 0, .int .u8 0, .int .u8 0, .nilFunc, .pointer none, .int .i32 0, .int .i32 0]⟩ := by kernel_rfl
end Go.VL
namespace Go.VL
open Go.RowKit
set_option maxRecDepth 20000
def int (a : Int) : List C := [.v (.int .i64 a)]
theorem int_len (a : Int) : (int a).length = 1 := rfl
theorem int_sc (a : Int) : (int a).all sc = true := rfl
abbrev cI (a : Int) : V := .c (.v (.int .i64 a))
abbrev cB (b : Bool) : V := .c (.v (.bool b))
abbrev ints (o : Bool) (xs : List Int) : C := .sl o xs.length 1 (flat int xs)
abbrev cen (o : Bool) (p : Int) (xs : List Int) : List C := [.v (.int .i64 p), ints o xs]
def szr (n : Nat) (l : Int) : Int := if l - n < 0 then -1 else l - n
def okC (p : Int) (xs : List Int) : Prop := 1 ≤ p ∧ p ≤ 9 ∧ 1 ≤ xs.length ∧ xs.length ≤ 6 ∧ ∀ x ∈ xs, 0 ≤ x ∧ x ≤ p - 1
instance (p : Int) (xs : List Int) : Decidable (okC p xs) := by unfold okC; infer_instance
theorem a_i {H : List Ob} {a b : Int} (h : a = b) : TrV H [] (cI a) (cI b) := by rw [h]; exact tr_v
theorem tr_fn1 {H : List Ob} {gg : List (Option Nat)} {g : FuncId} {cs : List C} : TrV H gg (.c (.fn g [.vw false cs 0])) (.c (.fn g [.vw false cs 0])) := .c (.fn rfl (same_of fun c hc => Tr.stay (by simp at hc; subst hc; rfl)))
def fidx (pr : Int → Prop) [DecidablePred pr] (xs : List Int) : Int := match xs.findIdx? (fun x => decide (pr x)) with
  | some i => (i : Int)
  | none => -1
theorem fidx_none {pr : Int → Prop} [DecidablePred pr] {xs : List Int} (h : ∀ x ∈ xs, ¬ pr x) : fidx pr xs = -1 := by
  unfold fidx
  rw [List.findIdx?_eq_none_iff.2 (by simpa using h)]
theorem fidx_hit {pr : Int → Prop} [DecidablePred pr] {xs : List Int} {i : Nat} (hi : i < xs.length) (h : ∀ x ∈ xs.take i, ¬ pr x) (h1 : pr xs[i]) : fidx pr xs = i := by
  unfold fidx
  rw [List.findIdx?_eq_some_iff_getElem.2 ⟨hi, by simpa using h1, fun j hj => by
    simpa using h xs[j] (by rw [List.mem_take_iff_getElem]; exact ⟨j, by omega, rfl⟩)⟩]
theorem fidx_ge (pr : Int → Prop) [DecidablePred pr] (xs : List Int) : 0 ≤ fidx pr xs ↔ ∃ x ∈ xs, pr x := by
  unfold fidx
  cases h : xs.findIdx? (fun x => decide (pr x)) with
  | none =>
    have := List.findIdx?_eq_none_iff.1 h
    simp only [decide_eq_false_iff_not] at this
    constructor
    · intro h; exact absurd (show (0 : Int) ≤ -1 from h) (by decide)
    · rintro ⟨x, h1, h2⟩; exact absurd h2 (this x h1)
  | some i =>
    obtain ⟨h1, h2, -⟩ := List.findIdx?_eq_some_iff_getElem.1 h
    exact ⟨fun _ => ⟨_, List.getElem_mem h1, by simpa using h2⟩, fun _ => by simp only []; omega⟩
theorem i64r {a : Int} (h : -9223372036854775808 ≤ a ∧ a ≤ 9223372036854775807) : IntKind.i64.min ≤ a ∧ a ≤ IntKind.i64.max := h
theorem all_step {α : Type} {xs : List α} {i : Nat} {p : α → Prop} (hi : i < xs.length) (h : ∀ x ∈ xs.take i, p x) (h1 : p xs[i]) : ∀ x ∈ xs.take (i + 1), p x := by
  rw [List.take_succ_eq_append_getElem hi]
  intro x hx
  rcases List.mem_append.1 hx with hx | hx
  · exact h x hx
  · simp at hx; subst hx; exact h1
theorem c64 (a lo hi : Int) : PureC X 64 [cI a, cI lo, cI hi] (cB (decide (lo ≤ a ∧ a ≤ hi))) := by
  refine PureC.of_body (drawD_ok X) (fun _ _ => Go.Proofs.Try.call64 _ _) Go.Proofs.Try.func64 rfl (n := 15) rfl ?_
  refine w_seq ?_
  refine w_reg rfl ?_
  refine v_assign (c := .v (.bool false)) rfl ?_
  refine v_nil ?_
  refine q_n ?_
  refine w_seq ?_
  refine w_reg rfl ?_
  refine v_move rfl ?_
  refine v_move rfl ?_
  refine v_geq lay2 rfl rfl (fun h1 => ?_) (fun h1 => ?_)
  rotate_left
  · refine v_move rfl ?_
    refine v_guard_off rfl rfl rfl ?_
    refine v_guard_off rfl rfl rfl ?_
    refine v_guard_off rfl rfl rfl ?_
    refine v_pick_f (v := .v (.bool false)) rfl rfl ?_
    refine v_assign rfl ?_
    refine v_nil ?_
    refine q_n ?_
    refine w_ret ?_
    refine r_r rfl ?_
    exact a_b (by simp <;> omega)
  refine v_move rfl ?_
  refine v_guard_on rfl rfl ?_
  refine v_move rfl ?_
  refine v_guard_on rfl rfl ?_
  refine v_move rfl ?_
  refine v_guard_on rfl rfl ?_
  refine v_leq lay2 rfl rfl (fun h2 => ?_) (fun h2 => ?_)
  · refine v_pick_t rfl rfl ?_
    refine v_assign rfl ?_
    refine v_nil ?_
    refine q_n ?_
    refine w_ret ?_
    refine r_r rfl ?_
    exact a_b (by simp <;> omega)
  refine v_pick_t rfl rfl ?_
  refine v_assign rfl ?_
  refine v_nil ?_
  refine q_n ?_
  refine w_ret ?_
  refine r_r rfl ?_
  exact a_b (by simp <;> omega)

theorem c52 (a lo hi : Int) : PureC X 52 [cI a, cI lo, cI hi] (cB (decide (lo ≤ a ∧ a ≤ hi))) := by
  refine PureC.of_body (drawD_ok X) (fun _ _ => Go.Proofs.Try.call52 _ _) Go.Proofs.Try.func52 rfl (n := 15) rfl ?_
  refine w_seq ?_
  refine w_reg rfl ?_
  refine v_assign (c := .v (.bool false)) rfl ?_
  refine v_nil ?_
  refine q_n ?_
  refine w_seq ?_
  refine w_reg rfl ?_
  refine v_move rfl ?_
  refine v_move rfl ?_
  refine v_leq lay2 rfl rfl (fun h1 => ?_) (fun h1 => ?_)
  rotate_left
  · refine v_move rfl ?_
    refine v_guard_off rfl rfl rfl ?_
    refine v_guard_off rfl rfl rfl ?_
    refine v_guard_off rfl rfl rfl ?_
    refine v_pick_f (v := .v (.bool false)) rfl rfl ?_
    refine v_assign rfl ?_
    refine v_nil ?_
    refine q_n ?_
    refine w_ret ?_
    refine r_r rfl ?_
    exact a_b (by simp <;> omega)
  refine v_move rfl ?_
  refine v_guard_on rfl rfl ?_
  refine v_move rfl ?_
  refine v_guard_on rfl rfl ?_
  refine v_move rfl ?_
  refine v_guard_on rfl rfl ?_
  refine v_leq lay2 rfl rfl (fun h2 => ?_) (fun h2 => ?_)
  · refine v_pick_t rfl rfl ?_
    refine v_assign rfl ?_
    refine v_nil ?_
    refine q_n ?_
    refine w_ret ?_
    refine r_r rfl ?_
    exact a_b (by simp <;> omega)
  refine v_pick_t rfl rfl ?_
  refine v_assign rfl ?_
  refine v_nil ?_
  refine q_n ?_
  refine w_ret ?_
  refine r_r rfl ?_
  exact a_b (by simp <;> omega)

theorem c32 (xs ys : List Int) (hx : xs.length ≤ 2 ^ 40) : PureC X 32 [.c (ints false xs), .c (ints false ys)] (cB (decide (xs = ys))) := by
  refine PureC.of_body (drawD_ok X) (fun _ _ => Go.Proofs.Try.call32 _ _) Go.Proofs.Try.func32 rfl (n := 26) rfl ?_
  refine w_seq ?_
  refine w_reg rfl ?_
  refine v_assign (c := .v (.bool false)) rfl ?_
  refine v_nil ?_
  refine q_n ?_
  refine w_seq ?_
  refine w_seq ?_
  refine w_reg rfl ?_
  refine v_move rfl ?_
  refine v_len_sl lay28 rfl ?_
  refine v_move rfl ?_
  refine v_len_sl lay28 rfl ?_
  refine v_neq lay3 rfl rfl (fun h1 => ?_) (fun h1 => ?_)
  · refine v_nil ?_
    refine q_n ?_
    refine w_t rfl ?_
    refine w_seq ?_
    refine w_reg rfl ?_
    refine v_assign (c := .v (.bool false)) rfl ?_
    refine v_nil ?_
    refine q_n ?_
    refine w_ret (q_r ?_)
    refine r_r rfl ?_
    exact a_b (by simp only [Bool.false_eq_true, false_iff]; rintro rfl; exact h1 rfl)
  refine v_nil ?_
  refine q_n ?_
  refine w_f rfl ?_
  refine w_skip ?_
  refine q_n ?_
  refine w_seq ?_
  refine w_seq ?_
  refine w_reg rfl ?_
  refine v_assign (c := .v (.int .i64 0)) rfl ?_
  refine v_nil ?_
  refine q_n ?_
  refine w_block ?_
  refine w_loop (fun k sl H => ∃ i : Nat, k = xs.length - i ∧ i ≤ xs.length ∧ xs.take i = ys.take i ∧ sl = sls [(0, .c (ints false xs)), (1, .c (ints false ys)), (5, cI i)] ∧ H = []) ?_ ?_
  · refine ⟨_, _, _, ?_, 0, rfl, Nat.zero_le _, rfl, rfl, rfl⟩
    exact turn0 ⟨tr_sl, tr_sl, tr_v, trivial⟩
  rintro k sl H ⟨i, rfl, hi, hp, rfl, rfl⟩
  refine w_seq ?_
  refine w_seq ?_
  refine w_reg rfl ?_
  refine v_move rfl ?_
  refine v_move rfl ?_
  refine v_len_sl lay28 rfl ?_
  refine v_lss lay3 rfl rfl (fun h2 => ?_) (fun h2 => ?_)
  rotate_left
  · refine v_nil ?_
    refine q_n ?_
    refine w_f rfl ?_
    refine w_exit ?_
    refine q_e ?_
    refine q_e ?_
    refine q_hit ?_
    refine q_n ?_
    refine w_seq ?_
    refine w_reg rfl ?_
    refine v_assign (c := .v (.bool true)) rfl ?_
    refine v_nil ?_
    refine q_n ?_
    refine w_ret ?_
    refine r_r rfl ?_
    have he : i = xs.length := by omega
    have hl : ys.length = xs.length := by omega
    rw [he, List.take_length, ← hl, List.take_length] at hp
    exact a_b (by simp only [true_iff]; exact hp)
  refine v_nil ?_
  refine q_n ?_
  refine w_t rfl ?_
  refine w_skip ?_
  refine q_n ?_
  refine w_seq ?_
  refine w_block ?_
  refine w_seq ?_
  refine w_draw [0, 0, 3, 7, 0, 0, 48, 112, 255] [⟨0, 0, []⟩, ⟨1, 0, []⟩, ⟨2, 0, []⟩, ⟨3, 0, []⟩, ⟨4, 0, []⟩, ⟨5, 0, []⟩, ⟨6, 0, []⟩, ⟨7, 0, []⟩, ⟨8, 0, []⟩] rfl rfl ?_
  refine d_q rfl rfl rfl rfl rfl ?_
  refine v_move rfl ?_
  refine v_nil ?_
  refine d_q rfl rfl rfl rfl rfl ?_
  refine v_move rfl ?_
  refine v_nil ?_
  refine d_q rfl rfl rfl rfl rfl ?_
  refine v_idx (k := 1) int_len lay28 lay2 rfl rfl rfl (rfl) rfl (by omega) (fun q3 hq3 e3 => ?_)
  obtain rfl : i = q3 := by omega
  refine v_nil ?_
  refine d_q rfl rfl rfl rfl rfl ?_
  refine v_load_vw (.c (.v _)) lay2 rfl rfl rfl ?_
  refine v_nil ?_
  refine d_q rfl rfl rfl rfl rfl ?_
  refine v_move rfl ?_
  refine v_nil ?_
  refine d_q rfl rfl rfl rfl rfl ?_
  refine v_move rfl ?_
  refine v_nil ?_
  refine d_q rfl rfl rfl rfl rfl ?_
  refine v_idx (k := 1) int_len lay28 lay2 rfl rfl rfl (rfl) rfl (by omega) (fun q4 hq4 e4 => ?_)
  obtain rfl : i = q4 := by omega
  refine v_nil ?_
  refine d_q rfl rfl rfl rfl rfl ?_
  refine v_load_vw (.c (.v _)) lay2 rfl rfl rfl ?_
  refine v_nil ?_
  refine d_q rfl rfl rfl rfl rfl ?_
  refine v_neq lay2 rfl rfl (fun h5 => ?_) (fun h5 => ?_)
  · refine v_nil ?_
    refine d_nil ?_
    refine q_n ?_
    refine w_t rfl ?_
    refine w_seq ?_
    refine w_reg rfl ?_
    refine v_assign (c := .v (.bool false)) rfl ?_
    refine v_nil ?_
    refine q_n ?_
    refine w_ret (q_br (q_r (q_r (q_br (q_r ?_)))))
    refine r_r rfl ?_
    exact a_b (by simp only [Bool.false_eq_true, false_iff]; rintro rfl; exact h5 rfl)
  refine v_nil ?_
  refine d_nil ?_
  refine q_n ?_
  refine w_f rfl ?_
  refine w_skip ?_
  refine q_bn ?_
  refine q_n ?_
  refine w_reg rfl ?_
  refine v_move rfl ?_
  refine v_add lay3 rfl rfl (i64r (by omega)) ?_
  refine v_assign rfl ?_
  refine v_nil ?_
  refine q_n ?_
  refine ⟨_, _, _, ?_, ⟨i + 1, rfl, by omega, ?_, rfl, rfl⟩, by omega⟩
  · exact turn0 ⟨tr_sl, tr_sl, tr_v, trivial⟩
  · rw [List.take_succ_eq_append_getElem hq3, List.take_succ_eq_append_getElem hq4, hp, h5]

theorem c53 (xs : List Int) (l : Int) (hl : 0 ≤ l ∧ l ≤ 2 ^ 20) (hx : xs.length ≤ maxLen) : PureC X 53 [.c (ints false xs), cI l] (cI (szr xs.length l)) := by
  refine PureC.of_body (drawD_ok X) (fun _ _ => Go.Proofs.Try.call53 _ _) Go.Proofs.Try.func53 rfl (n := 12) rfl ?_
  refine w_seq ?_
  refine w_reg rfl ?_
  refine v_assign (c := .v (.int .i64 0)) rfl ?_
  refine v_nil ?_
  refine q_n ?_
  refine w_seq ?_
  refine w_reg rfl ?_
  refine v_move rfl ?_
  refine v_move rfl ?_
  refine v_len_sl lay28 rfl ?_
  refine v_sub lay3 rfl rfl (i64r (by unfold maxLen at hx; omega)) ?_
  refine v_assign rfl ?_
  refine v_nil ?_
  refine q_n ?_
  refine w_seq ?_
  refine w_seq ?_
  refine w_reg rfl ?_
  refine v_move rfl ?_
  refine v_lss lay3 rfl rfl (fun h1 => ?_) (fun h1 => ?_)
  · refine v_nil ?_
    refine q_n ?_
    refine w_t rfl ?_
    refine w_seq ?_
    refine w_reg rfl ?_
    refine v_assign (c := .v (.int .i64 (-1))) rfl ?_
    refine v_nil ?_
    refine q_n ?_
    refine w_ret (q_r ?_)
    refine r_r rfl ?_
    exact a_i (by unfold szr; rw [if_pos h1])
  refine v_nil ?_
  refine q_n ?_
  refine w_f rfl ?_
  refine w_skip ?_
  refine q_n ?_
  refine w_seq ?_
  refine w_reg rfl ?_
  refine v_move rfl ?_
  refine v_assign rfl ?_
  refine v_nil ?_
  refine q_n ?_
  refine w_ret ?_
  refine r_r rfl ?_
  exact a_i (by unfold szr; rw [if_neg h1])

theorem c55 (xs : List Int) (hx : xs.length ≤ 2 ^ 40) : PureC X 55 [.c (ints false xs)] (.c (ints true xs)) := by
  refine PureC.of_body (drawD_ok X) (fun _ _ => Go.Proofs.Try.call55 _ _) Go.Proofs.Try.func55 rfl (n := 22) rfl ?_
  refine w_seq ?_
  refine w_reg rfl ?_
  refine v_assign rfl ?_
  refine v_nil ?_
  refine q_n ?_
  refine w_seq ?_
  refine w_reg rfl ?_
  refine v_move rfl ?_
  refine v_len_sl lay28 rfl ?_
  refine v_make (enc := int) (a0 := (0 : Int)) (m := 0) (H' := [_]) rfl lay28 lay2 rfl rfl rfl rfl (xs.length) (rfl) (by unfold maxLen; simp only []; omega) rfl rfl ?_
  refine v_assign rfl ?_
  refine v_nil ?_
  refine q_n ?_
  refine w_seq ?_
  refine w_seq ?_
  refine w_reg rfl ?_
  refine v_assign (c := .v (.int .i64 0)) rfl ?_
  refine v_nil ?_
  refine q_n ?_
  refine w_block ?_
  refine w_loop (fun k sl H => ∃ i : Nat, k = xs.length - i ∧ i ≤ xs.length ∧ sl = sls [(0, .c (ints false xs)), (3, .c (.mu 0 0 xs.length 1)), (4, cI i)] ∧ H = [⟨flat int (xs.take i ++ List.replicate (xs.length - i) 0), 2, true⟩]) ?_ ?_
  · refine ⟨_, _, _, ?_, 0, rfl, Nat.zero_le _, rfl, rfl⟩
    exact turn [some 0] rfl rfl rfl ⟨⟨_, rfl, .stay (stays_flat int_sc _)⟩, trivial⟩ ⟨tr_sl, tr_mu rfl, tr_v, trivial⟩
  rintro k sl H ⟨i, rfl, hi, rfl, rfl⟩
  refine w_seq ?_
  refine w_seq ?_
  refine w_reg rfl ?_
  refine v_move rfl ?_
  refine v_move rfl ?_
  refine v_len_sl lay28 rfl ?_
  refine v_lss lay3 rfl rfl (fun h1 => ?_) (fun h1 => ?_)
  rotate_left
  · refine v_nil ?_
    refine q_n ?_
    refine w_f rfl ?_
    refine w_exit ?_
    refine q_e ?_
    refine q_e ?_
    refine q_hit ?_
    refine q_n ?_
    refine w_seq ?_
    refine w_reg rfl ?_
    refine v_move rfl ?_
    refine v_assign rfl ?_
    refine v_nil ?_
    refine q_n ?_
    refine w_ret ?_
    refine r_r rfl ?_
    obtain rfl : i = xs.length := by omega
    exact a_flat (t := 2) int_sc int_len (by simp) rfl
  refine v_nil ?_
  refine q_n ?_
  refine w_t rfl ?_
  refine w_skip ?_
  refine q_n ?_
  refine w_seq ?_
  refine w_block ?_
  refine w_reg rfl ?_
  refine v_move rfl ?_
  refine v_move rfl ?_
  refine v_move rfl ?_
  refine v_move rfl ?_
  refine v_idx (k := 1) int_len lay28 lay2 rfl rfl rfl (rfl) rfl (by omega) (fun q2 hq2 e2 => ?_)
  obtain rfl : i = q2 := by omega
  refine v_load_vw (.c (.v _)) lay2 rfl rfl rfl ?_
  refine v_idx_mu (k := 1) (off := 0) lay28 lay2 rfl rfl rfl (by omega) (fun q3 hq3 e3 => ?_)
  obtain rfl : i = q3 := by omega
  refine v_store_flat (H' := [_]) i 0 (xs[i]) int_len lay2 rfl rfl rfl (by omega) (by simp; omega) rfl rfl (rfl) rfl ?_
  refine v_nil ?_
  refine q_bn ?_
  refine q_n ?_
  refine w_reg rfl ?_
  refine v_move rfl ?_
  refine v_add lay3 rfl rfl (i64r (by omega)) ?_
  refine v_assign rfl ?_
  refine v_nil ?_
  refine q_n ?_
  refine ⟨_, _, _, ?_, ⟨i + 1, rfl, by omega, rfl, rfl⟩, by omega⟩
  exact turn [some 0] rfl rfl rfl ⟨⟨_, rfl, by rw [fill_step hq2]; exact .stay (stays_flat int_sc _)⟩, trivial⟩ ⟨tr_sl, tr_mu rfl, tr_v, trivial⟩

theorem c15 (p : Int) (xs : List Int) (l : Int) (hl : 0 ≤ l ∧ l ≤ 2 ^ 20) (hx : xs.length ≤ maxLen) : PureC X 15 [.agg (cen false p xs), cI l] (cI (szr xs.length l)) := by
  refine PureC.of_body (drawD_ok X) (fun _ _ => Go.Proofs.Try.call15 _ _) Go.Proofs.Try.func15 rfl (n := 12) rfl ?_
  refine w_seq ?_
  refine w_reg rfl ?_
  refine v_box (m := 0) (H' := [_]) lay30 rfl rfl rfl ?_
  refine v_assign (c := .v (.int .i64 0)) rfl ?_
  refine v_nil ?_
  refine q_n ?_
  refine w_seq ?_
  refine w_reg rfl ?_
  refine v_fa_pt (off' := 1) lay30 rfl rfl rfl ?_
  refine v_load_pt (.c _) lay28 rfl rfl rfl rfl ?_
  refine v_move rfl ?_
  refine v_call (c53 _ _ (by omega) (by assumption)) rfl rfl rfl (.cons vw_sl (.cons vw_v .nil)) ?_
  refine v_assign rfl ?_
  refine v_nil ?_
  refine q_n ?_
  refine w_seq ?_
  refine w_seq ?_
  refine w_reg rfl ?_
  refine v_move rfl ?_
  refine v_lss lay3 rfl rfl (fun h1 => ?_) (fun h1 => ?_)
  rotate_left
  · refine v_nil ?_
    refine q_n ?_
    refine w_f rfl ?_
    refine w_skip ?_
    refine q_n ?_
    refine w_seq ?_
    refine w_reg rfl ?_
    refine v_move rfl ?_
    refine v_assign rfl ?_
    refine v_nil ?_
    refine q_n ?_
    refine w_ret ?_
    refine r_r rfl ?_
    exact a_i rfl
  refine v_nil ?_
  refine q_n ?_
  refine w_t rfl ?_
  refine w_seq ?_
  refine w_reg rfl ?_
  refine v_assign (c := .v (.int .i64 (-1))) rfl ?_
  refine v_nil ?_
  refine q_n ?_
  refine w_ret (q_r ?_)
  refine r_r rfl ?_
  exact a_i (by unfold szr at *; split at h1 <;> omega)

theorem c17 (p : Int) (xs : List Int) (hx : xs.length ≤ 2 ^ 40) : PureC X 17 [.agg (cen false p xs)] (.agg (cen true p xs)) := by
  refine PureC.of_body (drawD_ok X) (fun _ _ => Go.Proofs.Try.call17 _ _) Go.Proofs.Try.func17 rfl (n := 12) rfl ?_
  refine w_seq ?_
  refine w_reg rfl ?_
  refine v_box (m := 0) (H' := [_]) lay30 rfl rfl rfl ?_
  refine v_alloc (m := 1) (H' := [_, ⟨[.v _, .v _], 33, true⟩]) lay33 rfl rfl ?_
  refine v_nil ?_
  refine q_n ?_
  refine w_seq ?_
  refine w_reg rfl ?_
  refine v_alloc (m := 2) (H' := [_, _, ⟨[.v _, .v _], 33, true⟩]) lay33 rfl rfl ?_
  refine v_nil ?_
  refine q_n ?_
  refine w_seq ?_
  refine w_reg rfl ?_
  refine v_fa_pt (off' := 0) lay30 rfl rfl rfl ?_
  refine v_load_pt (.c _) lay2 rfl rfl rfl rfl ?_
  refine v_fa_pt (off' := 0) lay33 rfl rfl rfl ?_
  refine v_store (H' := [_, _, ⟨[_, _], 33, true⟩]) lay2 rfl rfl rfl rfl rfl rfl ?_
  refine v_nil ?_
  refine q_n ?_
  refine w_seq ?_
  refine w_reg rfl ?_
  refine v_fa_pt (off' := 1) lay30 rfl rfl rfl ?_
  refine v_load_pt (.c _) lay28 rfl rfl rfl rfl ?_
  refine v_call (c55 _ (by omega)) rfl rfl rfl (.cons vw_sl .nil) ?_
  refine v_fa_pt (off' := 1) lay33 rfl rfl rfl ?_
  refine v_store (H' := [_, _, ⟨[_, _], 33, true⟩]) lay28 rfl rfl rfl rfl rfl rfl ?_
  refine v_nil ?_
  refine q_n ?_
  refine w_seq ?_
  refine w_reg rfl ?_
  refine v_load_pt (.agg [_, _]) lay33 rfl rfl rfl rfl ?_
  refine v_store (H' := [_, ⟨[_, _], 33, true⟩, _]) lay33 rfl rfl rfl rfl rfl rfl ?_
  refine v_nil ?_
  refine q_n ?_
  refine w_ret ?_
  refine r_r rfl ?_
  exact a_agg (.cons tr_v (.cons tr_sl .nil))

theorem c19 (a b : Int) (xs ys : List Int) (hx : xs.length ≤ 2 ^ 40) : PureC X 19 [.agg (cen false a xs), .agg (cen false b ys)] (cB (decide (a = b ∧ xs = ys))) := by
  refine PureC.of_body (drawD_ok X) (fun _ _ => Go.Proofs.Try.call19 _ _) Go.Proofs.Try.func19 rfl (n := 16) rfl ?_
  refine w_seq ?_
  refine w_reg rfl ?_
  refine v_box (m := 0) (H' := [_]) lay33 rfl rfl rfl ?_
  refine v_box (m := 1) (H' := [_, _]) lay33 rfl rfl rfl ?_
  refine v_assign (c := .v (.bool false)) rfl ?_
  refine v_nil ?_
  refine q_n ?_
  refine w_seq ?_
  refine w_seq ?_
  refine w_reg rfl ?_
  refine v_fa_pt (off' := 0) lay33 rfl rfl rfl ?_
  refine v_load_pt (.c _) lay2 rfl rfl rfl rfl ?_
  refine v_fa_pt (off' := 0) lay33 rfl rfl rfl ?_
  refine v_load_pt (.c _) lay2 rfl rfl rfl rfl ?_
  refine v_neq lay2 rfl rfl (fun h1 => ?_) (fun h1 => ?_)
  · refine v_nil ?_
    refine q_n ?_
    refine w_t rfl ?_
    refine w_seq ?_
    refine w_reg rfl ?_
    refine v_assign (c := .v (.bool false)) rfl ?_
    refine v_nil ?_
    refine q_n ?_
    refine w_ret (q_r ?_)
    refine r_r rfl ?_
    exact a_b (by simp_all)
  refine v_nil ?_
  refine q_n ?_
  refine w_f rfl ?_
  refine w_skip ?_
  refine q_n ?_
  refine w_seq ?_
  refine w_seq ?_
  refine w_reg rfl ?_
  refine v_fa_pt (off' := 1) lay33 rfl rfl rfl ?_
  refine v_load_pt (.c _) lay28 rfl rfl rfl rfl ?_
  refine v_fa_pt (off' := 1) lay33 rfl rfl rfl ?_
  refine v_load_pt (.c _) lay28 rfl rfl rfl rfl ?_
  refine v_callb (c32 _ _ (by omega)) rfl rfl (.cons vw_sl (.cons vw_sl .nil)) (fun h2 => ?_) (fun h2 => ?_)
  rotate_left
  · refine v_not true rfl rfl ?_
    refine v_nil ?_
    refine q_n ?_
    refine w_t rfl ?_
    refine w_seq ?_
    refine w_reg rfl ?_
    refine v_assign (c := .v (.bool false)) rfl ?_
    refine v_nil ?_
    refine q_n ?_
    refine w_ret (q_r ?_)
    refine r_r rfl ?_
    exact a_b (by simp_all)
  refine v_not false rfl rfl ?_
  refine v_nil ?_
  refine q_n ?_
  refine w_f rfl ?_
  refine w_skip ?_
  refine q_n ?_
  refine w_seq ?_
  refine w_reg rfl ?_
  refine v_assign (c := .v (.bool true)) rfl ?_
  refine v_nil ?_
  refine q_n ?_
  refine w_ret ?_
  refine r_r rfl ?_
  exact a_b (by simp_all)

theorem c54 (p : Int) (xs : List Int) (hx : xs.length ≤ 2 ^ 40) : PureC X 54 [.c (.vw false (cen false p xs) 0)] (cB (decide (okC p xs))) := by
  refine PureC.of_body (drawD_ok X) (fun _ _ => Go.Proofs.Try.call54 _ _) Go.Proofs.Try.func54 rfl (n := 42) rfl ?_
  refine w_seq ?_
  refine w_reg rfl ?_
  refine v_assign (c := .v (.bool false)) rfl ?_
  refine v_nil ?_
  refine q_n ?_
  refine w_seq ?_
  refine w_seq ?_
  refine w_reg rfl ?_
  refine v_move rfl ?_
  refine v_nil_vw rfl ?_
  refine v_fa_vw (off' := 0) lay33 rfl rfl rfl ?_
  refine v_load_vw (.c (.v _)) lay2 rfl rfl rfl ?_
  refine v_callb (c64 _ _ _) rfl rfl (.cons vw_v (.cons vw_v (.cons vw_v .nil))) (fun h1 => ?_) (fun h1 => ?_)
  rotate_left
  · refine v_not true rfl rfl ?_
    refine v_move rfl ?_
    refine v_guard_off rfl rfl rfl ?_
    refine v_guard_off rfl rfl rfl ?_
    refine v_guard_off rfl rfl rfl ?_
    refine v_guard_off rfl rfl rfl ?_
    refine v_guard_off rfl rfl rfl ?_
    refine v_guard_off rfl rfl rfl ?_
    refine v_guard_off rfl rfl rfl ?_
    refine v_pick_t (v := .v (.bool true)) rfl rfl ?_
    refine v_nil ?_
    refine q_n ?_
    refine w_t rfl ?_
    refine w_seq ?_
    refine w_reg rfl ?_
    refine v_assign (c := .v (.bool false)) rfl ?_
    refine v_nil ?_
    refine q_n ?_
    refine w_ret (q_r ?_)
    refine r_r rfl ?_
    exact a_b (by simp only [Bool.false_eq_true, false_iff]; exact fun h => h1 ⟨h.1, h.2.1⟩)
  refine v_not false rfl rfl ?_
  refine v_move rfl ?_
  refine v_guard_on rfl rfl ?_
  refine v_move rfl ?_
  refine v_guard_on rfl rfl ?_
  refine v_nil_vw rfl ?_
  refine v_guard_on rfl rfl ?_
  refine v_fa_vw (off' := 1) lay33 rfl rfl rfl ?_
  refine v_guard_on rfl rfl ?_
  refine v_load_vw (.c (_)) lay28 rfl rfl rfl ?_
  refine v_guard_on rfl rfl ?_
  refine v_len_sl lay28 rfl ?_
  refine v_guard_on rfl rfl ?_
  refine v_callb (c64 _ _ _) rfl rfl (.cons vw_v (.cons vw_v (.cons vw_v .nil))) (fun h2 => ?_) (fun h2 => ?_)
  rotate_left
  · refine v_guard_on rfl rfl ?_
    refine v_not true rfl rfl ?_
    refine v_pick_f rfl rfl ?_
    refine v_nil ?_
    refine q_n ?_
    refine w_t rfl ?_
    refine w_seq ?_
    refine w_reg rfl ?_
    refine v_assign (c := .v (.bool false)) rfl ?_
    refine v_nil ?_
    refine q_n ?_
    refine w_ret (q_r ?_)
    refine r_r rfl ?_
    exact a_b (by simp only [Bool.false_eq_true, false_iff]; exact fun h => h2 ⟨by have := h.2.2.1; omega, by have := h.2.2.2.1; omega⟩)
  refine v_guard_on rfl rfl ?_
  refine v_not false rfl rfl ?_
  refine v_pick_f rfl rfl ?_
  refine v_nil ?_
  refine q_n ?_
  refine w_f rfl ?_
  refine w_skip ?_
  refine q_n ?_
  refine w_seq ?_
  refine w_seq ?_
  refine w_reg rfl ?_
  refine v_assign (c := .v (.int .i64 0)) rfl ?_
  refine v_nil ?_
  refine q_n ?_
  refine w_block ?_
  refine w_loop (fun k sl H => ∃ i : Nat, k = xs.length - i ∧ i ≤ xs.length ∧ (∀ x ∈ xs.take i, 0 ≤ x ∧ x ≤ p - 1) ∧ sl = sls [(0, .c (.vw false (cen false p xs) 0)), (3, cI i)] ∧ H = []) ?_ ?_
  · refine ⟨_, _, _, ?_, 0, rfl, Nat.zero_le _, by simp, rfl, rfl⟩
    exact turn0 ⟨tr_vw, tr_v, trivial⟩
  rintro k sl H ⟨i, rfl, hi, hp, rfl, rfl⟩
  refine w_seq ?_
  refine w_seq ?_
  refine w_reg rfl ?_
  refine v_move rfl ?_
  refine v_move rfl ?_
  refine v_nil_vw rfl ?_
  refine v_fa_vw (off' := 1) lay33 rfl rfl rfl ?_
  refine v_load_vw (.c (_)) lay28 rfl rfl rfl ?_
  refine v_len_sl lay28 rfl ?_
  refine v_lss lay3 rfl rfl (fun h3 => ?_) (fun h3 => ?_)
  rotate_left
  · refine v_nil ?_
    refine q_n ?_
    refine w_f rfl ?_
    refine w_exit ?_
    refine q_e ?_
    refine q_e ?_
    refine q_hit ?_
    refine q_n ?_
    refine w_seq ?_
    refine w_reg rfl ?_
    refine v_assign (c := .v (.bool true)) rfl ?_
    refine v_nil ?_
    refine q_n ?_
    refine w_ret ?_
    refine r_r rfl ?_
    obtain rfl : i = xs.length := by omega
    rw [List.take_length] at hp
    exact a_b (by simp only [true_iff]; exact ⟨h1.1, h1.2, by omega, by omega, hp⟩)
  refine v_nil ?_
  refine q_n ?_
  refine w_t rfl ?_
  refine w_skip ?_
  refine q_n ?_
  refine w_seq ?_
  refine w_block ?_
  refine w_seq ?_
  refine w_draw [0, 1, 3, 7, 0, 31, 63, 0, 128, 384, 896, 1920, 4095, 8191] [⟨0, 0, []⟩, ⟨1, 0, []⟩, ⟨2, 0, []⟩, ⟨3, 0, []⟩, ⟨4, 0, []⟩, ⟨5, 0, []⟩, ⟨6, 0, []⟩, ⟨7, 0, []⟩, ⟨8, 0, []⟩, ⟨9, 0, []⟩, ⟨10, 0, []⟩, ⟨11, 0, []⟩, ⟨12, 0, []⟩, ⟨13, 0, []⟩] rfl rfl ?_
  refine d_q rfl rfl rfl rfl rfl ?_
  refine v_move rfl ?_
  refine v_nil ?_
  refine d_q rfl rfl rfl rfl rfl ?_
  refine v_nil_vw rfl ?_
  refine v_nil ?_
  refine d_q rfl rfl rfl rfl rfl ?_
  refine v_fa_vw (off' := 1) lay33 rfl rfl rfl ?_
  refine v_nil ?_
  refine d_q rfl rfl rfl rfl rfl ?_
  refine v_load_vw (.c (_)) lay28 rfl rfl rfl ?_
  refine v_nil ?_
  refine d_q rfl rfl rfl rfl rfl ?_
  refine v_move rfl ?_
  refine v_nil ?_
  refine d_q rfl rfl rfl rfl rfl ?_
  refine v_idx (k := 1) int_len lay28 lay2 rfl rfl rfl (rfl) rfl (by omega) (fun q4 hq4 e4 => ?_)
  obtain rfl : i = q4 := by omega
  refine v_nil ?_
  refine d_q rfl rfl rfl rfl rfl ?_
  refine v_load_vw (.c (.v _)) lay2 rfl rfl rfl ?_
  refine v_nil ?_
  refine d_q rfl rfl rfl rfl rfl ?_
  refine v_move rfl ?_
  refine v_nil ?_
  refine d_q rfl rfl rfl rfl rfl ?_
  refine v_nil_vw rfl ?_
  refine v_nil ?_
  refine d_q rfl rfl rfl rfl rfl ?_
  refine v_fa_vw (off' := 0) lay33 rfl rfl rfl ?_
  refine v_nil ?_
  refine d_q rfl rfl rfl rfl rfl ?_
  refine v_load_vw (.c (.v _)) lay2 rfl rfl rfl ?_
  refine v_nil ?_
  refine d_q rfl rfl rfl rfl rfl ?_
  refine v_sub lay2 rfl rfl (i64r (by omega)) ?_
  refine v_nil ?_
  refine d_callb (c64 _ _ _) rfl rfl rfl rfl (.cons vw_v (.cons vw_v (.cons vw_v .nil))) (fun h5 => ?_) (fun h5 => ?_)
  rotate_left
  · refine d_q rfl rfl rfl rfl rfl ?_
    refine v_not true rfl rfl ?_
    refine v_nil ?_
    refine d_nil ?_
    refine q_n ?_
    refine w_t rfl ?_
    refine w_seq ?_
    refine w_reg rfl ?_
    refine v_assign (c := .v (.bool false)) rfl ?_
    refine v_nil ?_
    refine q_n ?_
    refine w_ret (q_br (q_r (q_r (q_br (q_r ?_)))))
    refine r_r rfl ?_
    exact a_b (by simp only [Bool.false_eq_true, false_iff]; exact fun h => h5 (h.2.2.2.2 _ (List.getElem_mem hq4)))
  refine d_q rfl rfl rfl rfl rfl ?_
  refine v_not false rfl rfl ?_
  refine v_nil ?_
  refine d_nil ?_
  refine q_n ?_
  refine w_f rfl ?_
  refine w_skip ?_
  refine q_bn ?_
  refine q_n ?_
  refine w_reg rfl ?_
  refine v_move rfl ?_
  refine v_add lay3 rfl rfl (i64r (by omega)) ?_
  refine v_assign rfl ?_
  refine v_nil ?_
  refine q_n ?_
  refine ⟨_, _, _, ?_, ⟨i + 1, rfl, by omega, ?_, rfl, rfl⟩, by omega⟩
  · exact turn0 ⟨tr_vw, tr_v, trivial⟩
  · exact all_step hq4 hp h5

theorem c16 (p : Int) (xs : List Int) (hx : xs.length ≤ 2 ^ 40) : PureC X 16 [.agg (cen false p xs)] (cB (decide (okC p xs))) := by
  refine PureC.of_body (drawD_ok X) (fun _ _ => Go.Proofs.Try.call16 _ _) Go.Proofs.Try.func16 rfl (n := 4) rfl ?_
  refine w_seq ?_
  refine w_reg rfl ?_
  refine v_box (m := 0) (H' := [_]) lay33 rfl rfl rfl ?_
  refine v_assign (c := .v (.bool false)) rfl ?_
  refine v_nil ?_
  refine q_n ?_
  refine w_seq ?_
  refine w_reg rfl ?_
  refine v_callb (c54 _ _ (by omega)) rfl rfl (.cons (vw_pt rfl (.cons .v (.cons (.sl (fun h => by cases h)) .nil))) .nil) (fun h1 => ?_) (fun h1 => ?_)
  · refine v_assign rfl ?_
    refine v_nil ?_
    refine q_n ?_
    refine w_ret ?_
    refine r_r rfl ?_
    exact a_b (by simp_all)
  refine v_assign rfl ?_
  refine v_nil ?_
  refine q_n ?_
  refine w_ret ?_
  refine r_r rfl ?_
  exact a_b (by simp_all)

theorem c57 (p x : Int) (xs : List Int) (hp : 1 ≤ p ∧ p ≤ 9) : PureC X 57 [cI x, .c (.vw false (cen false p xs) 0)] (cB (decide (¬ (0 ≤ x ∧ x ≤ p - 1)))) := by
  refine PureC.of_body (drawD_ok X) (fun _ _ => Go.Proofs.Try.call57 _ _) Go.Proofs.Try.func57 rfl (n := 10) rfl ?_
  refine w_seq ?_
  refine w_reg rfl ?_
  refine v_assign (c := .v (.bool false)) rfl ?_
  refine v_nil ?_
  refine q_n ?_
  refine w_seq ?_
  refine w_reg rfl ?_
  refine v_move rfl ?_
  refine v_fa_vw (off' := 0) lay33 rfl rfl rfl ?_
  refine v_load_vw (.c (.v _)) lay2 rfl rfl rfl ?_
  refine v_sub lay2 rfl rfl (i64r (by omega)) ?_
  refine v_callb (c52 _ _ _) rfl rfl (.cons vw_v (.cons vw_v (.cons vw_v .nil))) (fun h1 => ?_) (fun h1 => ?_)
  rotate_left
  · refine v_not true rfl rfl ?_
    refine v_assign rfl ?_
    refine v_nil ?_
    refine q_n ?_
    refine w_ret ?_
    refine r_r rfl ?_
    exact a_b (by simp_all)
  refine v_not false rfl rfl ?_
  refine v_assign rfl ?_
  refine v_nil ?_
  refine q_n ?_
  refine w_ret ?_
  refine r_r rfl ?_
  exact a_b (by simp_all)

theorem c82 (g : FuncId) (cs : List C) (pr : Int → Prop) [DecidablePred pr] (xs : List Int) (hx : xs.length ≤ 2 ^ 40) (hF : ∀ x ∈ xs, PureC X g [cI x, .c (.vw false cs 0)] (cB (decide (pr x)))) : PureC X 82 [.c (ints false xs), .c (.fn g [.vw false cs 0])] (cI (fidx pr xs)) := by
  refine PureC.of_body (drawD_ok X) (fun _ _ => Go.Proofs.Try.call82 _ _) Go.Proofs.Try.func82 rfl (n := 19) rfl ?_
  refine w_seq ?_
  refine w_reg rfl ?_
  refine v_assign (c := .v (.int .i64 0)) rfl ?_
  refine v_nil ?_
  refine q_n ?_
  refine w_seq ?_
  refine w_seq ?_
  refine w_reg rfl ?_
  refine v_move rfl ?_
  refine v_len_sl lay28 rfl ?_
  refine v_move (c := .v (.int .i64 0)) rfl ?_
  refine v_nil ?_
  refine q_n ?_
  refine w_block ?_
  refine w_loop (fun k sl H => ∃ i : Nat, k = xs.length - i ∧ i ≤ xs.length ∧ (∀ x ∈ xs.take i, ¬ pr x) ∧ sl = sls [(0, .c (ints false xs)), (1, .c (.fn g [.vw false cs 0])), (7, cI xs.length), (8, cI i)] ∧ H = []) ?_ ?_
  · refine ⟨_, _, _, ?_, 0, rfl, Nat.zero_le _, by simp, rfl, rfl⟩
    exact turn0 ⟨tr_sl, tr_fn1, tr_v, tr_v, trivial⟩
  rintro k sl H ⟨i, rfl, hi, hp, rfl, rfl⟩
  refine w_seq ?_
  refine w_reg rfl ?_
  refine v_lss lay3 rfl rfl (fun h1 => ?_) (fun h1 => ?_)
  rotate_left
  · refine v_nil ?_
    refine q_n ?_
    refine w_seq ?_
    refine w_f rfl ?_
    refine w_exit ?_
    refine q_e ?_
    refine q_e ?_
    refine q_hit ?_
    refine q_n ?_
    refine w_seq ?_
    refine w_reg rfl ?_
    refine v_assign (c := .v (.int .i64 (-1))) rfl ?_
    refine v_nil ?_
    refine q_n ?_
    refine w_ret ?_
    refine r_r rfl ?_
    obtain rfl : i = xs.length := by omega
    rw [List.take_length] at hp
    exact a_i (fidx_none hp).symm
  refine v_nil ?_
  refine q_n ?_
  refine w_seq ?_
  refine w_t rfl ?_
  refine w_skip ?_
  refine q_n ?_
  refine w_seq ?_
  refine w_block ?_
  refine w_seq ?_
  refine w_reg rfl ?_
  refine v_move rfl ?_
  refine v_assign rfl ?_
  refine v_nil ?_
  refine q_n ?_
  refine w_seq ?_
  refine w_reg rfl ?_
  refine v_move rfl ?_
  refine v_move rfl ?_
  refine v_move rfl ?_
  refine v_idx (k := 1) int_len lay28 lay2 rfl rfl rfl (rfl) rfl (by omega) (fun q2 hq2 e2 => ?_)
  obtain rfl : i = q2 := by omega
  have hqH : i < xs.length := hq2
  refine v_load_vw (.c (.v _)) lay2 rfl rfl rfl ?_
  refine v_callb (hF _ (List.getElem_mem hqH)) rfl rfl (.cons vw_v (.cons vw_vw .nil)) (fun h3 => ?_) (fun h3 => ?_)
  · refine v_nil ?_
    refine q_n ?_
    refine w_t rfl ?_
    refine w_seq ?_
    refine w_reg rfl ?_
    refine v_move rfl ?_
    refine v_assign rfl ?_
    refine v_nil ?_
    refine q_n ?_
    refine w_ret (q_br (q_r (q_r (q_br (q_r ?_)))))
    refine r_r rfl ?_
    exact a_i (fidx_hit hqH hp h3).symm
  refine v_nil ?_
  refine q_n ?_
  refine w_f rfl ?_
  refine w_skip ?_
  refine q_bn ?_
  refine q_n ?_
  refine w_reg rfl ?_
  refine v_add lay3 rfl rfl (i64r (by omega)) ?_
  refine v_move rfl ?_
  refine v_nil ?_
  refine q_n ?_
  refine ⟨_, _, _, ?_, ⟨i + 1, rfl, by omega, ?_, rfl, rfl⟩, by omega⟩
  · exact turn0 ⟨tr_sl, tr_fn1, tr_v, tr_v, trivial⟩
  · exact all_step hqH hp h3

theorem c56 (g : FuncId) (cs : List C) (pr : Int → Prop) [DecidablePred pr] (xs : List Int) (hx : xs.length ≤ 2 ^ 40) (hF : ∀ x ∈ xs, PureC X g [cI x, .c (.vw false cs 0)] (cB (decide (pr x)))) : PureC X 56 [.c (ints false xs), .c (.fn g [.vw false cs 0])] (cB (decide (∃ x ∈ xs, pr x))) := by
  refine PureC.of_body (drawD_ok X) (fun _ _ => Go.Proofs.Try.call56 _ _) Go.Proofs.Try.func56 rfl (n := 9) rfl ?_
  refine w_seq ?_
  refine w_reg rfl ?_
  refine v_assign (c := .v (.bool false)) rfl ?_
  refine v_nil ?_
  refine q_n ?_
  refine w_seq ?_
  refine w_reg rfl ?_
  refine v_move rfl ?_
  refine v_move rfl ?_
  refine v_call (c82 _ _ pr _ hx hF) rfl rfl rfl (.cons vw_sl (.cons (vw_fn (.cons vw_vw .nil)) .nil)) ?_
  refine v_geq lay3 rfl rfl (fun h1 => ?_) (fun h1 => ?_)
  · refine v_assign rfl ?_
    refine v_nil ?_
    refine q_n ?_
    refine w_ret ?_
    refine r_r rfl ?_
    exact a_b (by simp only [true_iff]; exact (fidx_ge _ _).1 h1)
  refine v_assign rfl ?_
  refine v_nil ?_
  refine q_n ?_
  refine w_ret ?_
  refine r_r rfl ?_
  exact a_b (by simp only [Bool.false_eq_true, false_iff]; exact fun h => h1 ((fidx_ge _ _).2 h))

theorem c18 (p : Int) (xs : List Int) (hx : xs.length ≤ 2 ^ 40) : PureC X 18 [.agg (cen false p xs)] (cB (decide (okC p xs))) := by
  refine PureC.of_body (drawD_ok X) (fun _ _ => Go.Proofs.Try.call18 _ _) Go.Proofs.Try.func18 rfl (n := 19) rfl ?_
  refine w_seq ?_
  refine w_reg rfl ?_
  refine v_box (m := 0) (H' := [_]) lay33 rfl rfl rfl ?_
  refine v_assign (c := .v (.bool false)) rfl ?_
  refine v_nil ?_
  refine q_n ?_
  refine w_seq ?_
  refine w_reg rfl ?_
  refine v_fa_pt (off' := 0) lay33 rfl rfl rfl ?_
  refine v_load_pt (.c _) lay2 rfl rfl rfl rfl ?_
  refine v_callb (c52 _ _ _) rfl rfl (.cons vw_v (.cons vw_v (.cons vw_v .nil))) (fun h1 => ?_) (fun h1 => ?_)
  rotate_left
  · refine v_move rfl ?_
    refine v_guard_off rfl rfl rfl ?_
    refine v_guard_off rfl rfl rfl ?_
    refine v_guard_off rfl rfl rfl ?_
    refine v_guard_off rfl rfl rfl ?_
    refine v_pick_f (v := .v (.bool false)) rfl rfl ?_
    refine v_move rfl ?_
    refine v_guard_off rfl rfl rfl ?_
    refine v_guard_off rfl rfl rfl ?_
    refine v_guard_off rfl rfl rfl ?_
    refine v_guard_off rfl rfl rfl ?_
    refine v_guard_off rfl rfl rfl ?_
    refine v_pick_f (v := .v (.bool false)) rfl rfl ?_
    refine v_assign rfl ?_
    refine v_nil ?_
    refine q_n ?_
    refine w_ret ?_
    refine r_r rfl ?_
    exact a_b (by simp only [Bool.false_eq_true, false_iff]; exact fun h => h1 ⟨h.1, h.2.1⟩)
  refine v_move rfl ?_
  refine v_guard_on rfl rfl ?_
  refine v_fa_pt (off' := 1) lay33 rfl rfl rfl ?_
  refine v_guard_on rfl rfl ?_
  refine v_load_pt (.c _) lay28 rfl rfl rfl rfl ?_
  refine v_guard_on rfl rfl ?_
  refine v_len_sl lay28 rfl ?_
  refine v_guard_on rfl rfl ?_
  refine v_callb (c52 _ _ _) rfl rfl (.cons vw_v (.cons vw_v (.cons vw_v .nil))) (fun h2 => ?_) (fun h2 => ?_)
  rotate_left
  · refine v_pick_t rfl rfl ?_
    refine v_move rfl ?_
    refine v_guard_off rfl rfl rfl ?_
    refine v_guard_off rfl rfl rfl ?_
    refine v_guard_off rfl rfl rfl ?_
    refine v_guard_off rfl rfl rfl ?_
    refine v_guard_off rfl rfl rfl ?_
    refine v_pick_f (v := .v (.bool false)) rfl rfl ?_
    refine v_assign rfl ?_
    refine v_nil ?_
    refine q_n ?_
    refine w_ret ?_
    refine r_r rfl ?_
    exact a_b (by simp only [Bool.false_eq_true, false_iff]; exact fun h => h2 ⟨by have := h.2.2.1; omega, by have := h.2.2.2.1; omega⟩)
  refine v_pick_t rfl rfl ?_
  refine v_move rfl ?_
  refine v_guard_on rfl rfl ?_
  refine v_fa_pt (off' := 1) lay33 rfl rfl rfl ?_
  refine v_guard_on rfl rfl ?_
  refine v_load_pt (.c _) lay28 rfl rfl rfl rfl ?_
  refine v_guard_on rfl rfl ?_
  refine v_fn rfl ?_
  refine v_guard_on rfl rfl ?_
  refine v_callb (c56 57 _ (fun x => ¬ (0 ≤ x ∧ x ≤ p - 1)) _ hx (fun x _ => c57 p x xs (by omega))) rfl rfl (.cons vw_sl (.cons (vw_fn (.cons (vw_pt rfl (.cons .v (.cons (.sl (fun h => by cases h)) .nil))) .nil)) .nil)) (fun h3 => ?_) (fun h3 => ?_)
  · refine v_guard_on rfl rfl ?_
    refine v_not false rfl rfl ?_
    refine v_pick_t rfl rfl ?_
    refine v_assign rfl ?_
    refine v_nil ?_
    refine q_n ?_
    refine w_ret ?_
    refine r_r rfl ?_
    exact a_b (by simp only [Bool.false_eq_true, false_iff]; exact fun h => let ⟨x, k1, k2⟩ := h3; k2 (h.2.2.2.2 x k1))
  refine v_guard_on rfl rfl ?_
  refine v_not true rfl rfl ?_
  refine v_pick_t rfl rfl ?_
  refine v_assign rfl ?_
  refine v_nil ?_
  refine q_n ?_
  refine w_ret ?_
  refine r_r rfl ?_
  exact a_b (by simp only [true_iff]; exact ⟨h1.1, h1.2, by omega, by omega, fun x hx => Decidable.of_not_not (fun hn => h3 ⟨x, hx, hn⟩)⟩)

theorem c4 (p : Int) (xs : List Int) (hx : xs.length ≤ maxLen) : PureC X 4 [.agg (cen false p xs)] (cB true) := by
  refine PureC.of_body (drawD_ok X) (fun _ _ => Go.Proofs.Try.call4 _ _) Go.Proofs.Try.func4 rfl (n := 27) rfl ?_
  refine w_seq ?_
  refine w_reg rfl ?_
  refine v_box (m := 0) (H' := [_]) lay30 rfl rfl rfl ?_
  refine v_assign (c := .v (.bool false)) rfl ?_
  refine v_nil ?_
  refine q_n ?_
  refine w_seq ?_
  refine w_reg rfl ?_
  refine v_assign (c := .v (.int .i64 1048576)) rfl ?_
  refine v_nil ?_
  refine q_n ?_
  refine w_seq ?_
  refine w_reg rfl ?_
  refine v_load_pt (.agg [_, _]) lay30 rfl rfl rfl rfl ?_
  refine v_move rfl ?_
  refine v_call (c15 _ _ _ (by omega) hx) rfl rfl rfl (.cons (vw_agg (.cons vw_v (.cons vw_sl .nil))) (.cons vw_v .nil)) ?_
  refine v_assign rfl ?_
  refine v_nil ?_
  refine q_n ?_
  refine w_seq ?_
  refine w_seq ?_
  refine w_reg rfl ?_
  refine v_move rfl ?_
  refine v_lss lay3 rfl rfl (fun h1 => ?_) (fun h1 => ?_)
  · refine v_nil ?_
    refine q_n ?_
    refine w_t rfl ?_
    refine w_seq ?_
    refine w_reg rfl ?_
    refine v_assign (c := .v (.bool true)) rfl ?_
    refine v_nil ?_
    refine q_n ?_
    refine w_ret (q_r ?_)
    refine r_r rfl ?_
    first | exact tr_v | (exfalso; simp_all; done)
  have hx2 : xs.length ≤ 2 ^ 40 := by unfold szr at h1; split at h1 <;> omega
  refine v_nil ?_
  refine q_n ?_
  refine w_f rfl ?_
  refine w_skip ?_
  refine q_n ?_
  refine w_seq ?_
  refine w_reg rfl ?_
  refine v_load_pt (.agg [_, _]) lay30 rfl rfl rfl rfl ?_
  refine v_call (c17 _ _ hx2) rfl rfl rfl (.cons (vw_agg (.cons vw_v (.cons vw_sl .nil))) .nil) ?_
  refine v_callb (c16 _ _ hx2) rfl rfl (.cons (vw_agg (.cons vw_v (.cons vw_sl .nil))) .nil) (fun h2 => ?_) (fun h2 => ?_)
  rotate_left
  · refine v_assign rfl ?_
    refine v_nil ?_
    refine q_n ?_
    refine w_seq ?_
    refine w_reg rfl ?_
    refine v_load_pt (.agg [_, _]) lay30 rfl rfl rfl rfl ?_
    refine v_call (c17 _ _ hx2) rfl rfl rfl (.cons (vw_agg (.cons vw_v (.cons vw_sl .nil))) .nil) ?_
    refine v_alloc (m := 1) (H' := [_, ⟨[.v _, .v _], 33, true⟩]) lay33 rfl rfl ?_
    refine v_store (H' := [_, ⟨[_, _], 33, true⟩]) lay33 rfl rfl rfl rfl rfl rfl ?_
    refine v_nil ?_
    refine q_n ?_
    refine w_seq ?_
    refine w_reg rfl ?_
    refine v_load_pt (.agg [_, _]) lay33 rfl rfl rfl rfl ?_
    refine v_callb (c18 _ _ hx2) rfl rfl (.cons (vw_agg (.cons vw_v (.cons vw_sl .nil))) .nil) (fun h5 => ?_) (fun h5 => ?_)
    · refine v_assign rfl ?_
      refine v_nil ?_
      refine q_n ?_
      refine w_seq ?_
      refine w_seq ?_
      refine w_reg rfl ?_
      refine v_move rfl ?_
      refine v_move rfl ?_
      refine v_bin (c := .v (.bool true)) lay4 rfl rfl rfl ?_
      refine v_nil ?_
      refine q_n ?_
      refine w_t rfl ?_
      refine w_seq ?_
      refine w_reg rfl ?_
      refine v_assign (c := .v (.bool false)) rfl ?_
      refine v_nil ?_
      refine q_n ?_
      refine w_ret (q_r ?_)
      refine r_r rfl ?_
      first | exact tr_v | (exfalso; simp_all; done)
    refine v_assign rfl ?_
    refine v_nil ?_
    refine q_n ?_
    refine w_seq ?_
    refine w_seq ?_
    refine w_reg rfl ?_
    refine v_move rfl ?_
    refine v_move rfl ?_
    refine v_bin (c := .v (.bool false)) lay4 rfl rfl rfl ?_
    refine v_nil ?_
    refine q_n ?_
    refine w_f rfl ?_
    refine w_skip ?_
    refine q_n ?_
    refine w_seq ?_
    refine w_seq ?_
    refine w_draw [0, 0, 2, 7, 15] [⟨0, 0, []⟩, ⟨1, 0, []⟩, ⟨2, 0, []⟩, ⟨3, 0, []⟩, ⟨4, 0, []⟩] rfl rfl ?_
    refine d_q rfl rfl rfl rfl rfl ?_
    refine v_load_pt (.agg [_, _]) lay33 rfl rfl rfl rfl ?_
    refine v_nil ?_
    refine d_q rfl rfl rfl rfl rfl ?_
    refine v_load_pt (.agg [_, _]) lay30 rfl rfl rfl rfl ?_
    refine v_nil ?_
    refine d_call (c17 _ _ hx2) rfl rfl rfl rfl rfl (.cons (vw_agg (.cons vw_v (.cons vw_sl .nil))) .nil) ?_
    refine d_callb (c19 _ _ _ _ hx2) rfl rfl rfl rfl (.cons (vw_agg (.cons vw_v (.cons vw_sl .nil))) (.cons (vw_agg (.cons vw_v (.cons vw_sl .nil))) .nil)) (fun h6 => ?_) (fun h6 => ?_)
    rotate_left
    · refine d_q rfl rfl rfl rfl rfl ?_
      refine v_not true rfl rfl ?_
      refine v_nil ?_
      refine d_nil ?_
      refine q_n ?_
      refine w_t rfl ?_
      refine w_seq ?_
      refine w_reg rfl ?_
      refine v_assign (c := .v (.bool false)) rfl ?_
      refine v_nil ?_
      refine q_n ?_
      refine w_ret (q_r ?_)
      refine r_r rfl ?_
      first | exact tr_v | (exfalso; simp_all; done)
    refine d_q rfl rfl rfl rfl rfl ?_
    refine v_not false rfl rfl ?_
    refine v_nil ?_
    refine d_nil ?_
    refine q_n ?_
    refine w_f rfl ?_
    refine w_skip ?_
    refine q_n ?_
    refine w_seq ?_
    refine w_reg rfl ?_
    refine v_assign (c := .v (.bool true)) rfl ?_
    refine v_nil ?_
    refine q_n ?_
    refine w_ret ?_
    refine r_r rfl ?_
    first | exact tr_v | (exfalso; simp_all; done)
  refine v_assign rfl ?_
  refine v_nil ?_
  refine q_n ?_
  refine w_seq ?_
  refine w_reg rfl ?_
  refine v_load_pt (.agg [_, _]) lay30 rfl rfl rfl rfl ?_
  refine v_call (c17 _ _ hx2) rfl rfl rfl (.cons (vw_agg (.cons vw_v (.cons vw_sl .nil))) .nil) ?_
  refine v_alloc (m := 1) (H' := [_, ⟨[.v _, .v _], 33, true⟩]) lay33 rfl rfl ?_
  refine v_store (H' := [_, ⟨[_, _], 33, true⟩]) lay33 rfl rfl rfl rfl rfl rfl ?_
  refine v_nil ?_
  refine q_n ?_
  refine w_seq ?_
  refine w_reg rfl ?_
  refine v_load_pt (.agg [_, _]) lay33 rfl rfl rfl rfl ?_
  refine v_callb (c18 _ _ hx2) rfl rfl (.cons (vw_agg (.cons vw_v (.cons vw_sl .nil))) .nil) (fun h3 => ?_) (fun h3 => ?_)
  rotate_left
  · refine v_assign rfl ?_
    refine v_nil ?_
    refine q_n ?_
    refine w_seq ?_
    refine w_seq ?_
    refine w_reg rfl ?_
    refine v_move rfl ?_
    refine v_move rfl ?_
    refine v_bin (c := .v (.bool true)) lay4 rfl rfl rfl ?_
    refine v_nil ?_
    refine q_n ?_
    refine w_t rfl ?_
    refine w_seq ?_
    refine w_reg rfl ?_
    refine v_assign (c := .v (.bool false)) rfl ?_
    refine v_nil ?_
    refine q_n ?_
    refine w_ret (q_r ?_)
    refine r_r rfl ?_
    first | exact tr_v | (exfalso; simp_all; done)
  refine v_assign rfl ?_
  refine v_nil ?_
  refine q_n ?_
  refine w_seq ?_
  refine w_seq ?_
  refine w_reg rfl ?_
  refine v_move rfl ?_
  refine v_move rfl ?_
  refine v_bin (c := .v (.bool false)) lay4 rfl rfl rfl ?_
  refine v_nil ?_
  refine q_n ?_
  refine w_f rfl ?_
  refine w_skip ?_
  refine q_n ?_
  refine w_seq ?_
  refine w_seq ?_
  refine w_draw [0, 0, 2, 7, 15] [⟨0, 0, []⟩, ⟨1, 0, []⟩, ⟨2, 0, []⟩, ⟨3, 0, []⟩, ⟨4, 0, []⟩] rfl rfl ?_
  refine d_q rfl rfl rfl rfl rfl ?_
  refine v_load_pt (.agg [_, _]) lay33 rfl rfl rfl rfl ?_
  refine v_nil ?_
  refine d_q rfl rfl rfl rfl rfl ?_
  refine v_load_pt (.agg [_, _]) lay30 rfl rfl rfl rfl ?_
  refine v_nil ?_
  refine d_call (c17 _ _ hx2) rfl rfl rfl rfl rfl (.cons (vw_agg (.cons vw_v (.cons vw_sl .nil))) .nil) ?_
  refine d_callb (c19 _ _ _ _ hx2) rfl rfl rfl rfl (.cons (vw_agg (.cons vw_v (.cons vw_sl .nil))) (.cons (vw_agg (.cons vw_v (.cons vw_sl .nil))) .nil)) (fun h4 => ?_) (fun h4 => ?_)
  rotate_left
  · refine d_q rfl rfl rfl rfl rfl ?_
    refine v_not true rfl rfl ?_
    refine v_nil ?_
    refine d_nil ?_
    refine q_n ?_
    refine w_t rfl ?_
    refine w_seq ?_
    refine w_reg rfl ?_
    refine v_assign (c := .v (.bool false)) rfl ?_
    refine v_nil ?_
    refine q_n ?_
    refine w_ret (q_r ?_)
    refine r_r rfl ?_
    first | exact tr_v | (exfalso; simp_all; done)
  refine d_q rfl rfl rfl rfl rfl ?_
  refine v_not false rfl rfl ?_
  refine v_nil ?_
  refine d_nil ?_
  refine q_n ?_
  refine w_f rfl ?_
  refine w_skip ?_
  refine q_n ?_
  refine w_seq ?_
  refine w_reg rfl ?_
  refine v_assign (c := .v (.bool true)) rfl ?_
  refine v_nil ?_
  refine q_n ?_
  refine w_ret ?_
  refine r_r rfl ?_
  first | exact tr_v | (exfalso; simp_all; done)
end Go.VL
namespace Go.VL
open Go.RowKit
set_option maxRecDepth 20000
set_option maxHeartbeats 4000000
inductive TrVL (H : List Ob) (g : List (Option Nat)) : List V → List V → Prop
  | nil : TrVL H g [] []
  | cons {v v' : V} {vs vs' : List V} (h : TrV H g v v') (hs : TrVL H g vs vs') : TrVL H g (v :: vs) (v' :: vs')
theorem TrVL.spec {H : List Ob} {g : List (Option Nat)} {vs vs' : List V} (h : TrVL H g vs vs') : vs'.length = vs.length ∧ ∀ (j : Nat) (v v' : V), vs[j]? = some v → vs'[j]? = some v' → TrV H g v v' := by
  induction h with
  | nil => exact ⟨rfl, fun j c c' h => by simp at h⟩
  | cons h hs ih =>
    refine ⟨by simp [ih.1], fun j x x' hj hj' => ?_⟩
    cases j with
    | zero => simp at hj hj'; subst hj hj'; exact h
    | succ j => exact ih.2 j x x' (by simpa using hj) (by simpa using hj')
theorem a_tup {H : List Ob} {g : List (Option Nat)} {vs vs' : List V} (h : TrVL H g vs vs') : TrV H g (.tup vs) (.tup vs') := .tup h.spec.1 h.spec.2
theorem of_in {p : Prop} (h : p) : p := h
def firstNZ : List Int → Int
  | [] => 0
  | x :: r => if x = 0 then firstNZ r else x
theorem firstNZ_none : ∀ {xs : List Int}, (∀ x ∈ xs, x = 0) → firstNZ xs = 0
  | [], _ => rfl
  | x :: r, h => by
    have h0 := h x (by simp)
    simp only [firstNZ, h0, if_true]
    exact firstNZ_none fun y hy => h y (by simp [hy])
theorem firstNZ_hit : ∀ {xs : List Int} {i : Nat} (hi : i < xs.length), (∀ x ∈ xs.take i, x = 0) → ¬ xs[i] = 0 → firstNZ xs = xs[i]
  | x :: r, 0, _, _, h => by simpa [firstNZ] using fun h0 => absurd h0 h
  | x :: r, i + 1, hi, hp, h => by
    have h0 := hp x (by simp)
    simp only [firstNZ, h0, if_true]
    exact firstNZ_hit (xs := r) (by simpa using hi) (fun y hy => hp y (by simp [hy])) (by simpa using h)
abbrev De := Int × Int × Int
def dce (d : De) : List C := [.v (.int .i64 d.1), .v (.int .i64 d.2.1), .v (.int .i64 d.2.2)]
theorem dce_len (d : De) : (dce d).length = 3 := rfl
theorem dce_sc (d : De) : (dce d).all sc = true := rfl
abbrev dcs (o : Bool) (xs : List De) : C := .sl o xs.length 3 (flat dce xs)
theorem de_ext {d e : De} : d = e ↔ d.1 = e.1 ∧ d.2.1 = e.2.1 ∧ d.2.2 = e.2.2 := by
  obtain ⟨a, b, c⟩ := d
  obtain ⟨a2, b2, c2⟩ := e
  simp
/-- A deed that is valid. -/
def dOk (d : De) : Prop := (1 ≤ d.1 ∧ d.1 ≤ 7) ∧ (0 ≤ d.2.1 ∧ d.2.1 ≤ 999) ∧ (0 ≤ d.2.2 ∧ d.2.2 ≤ 999) ∧ (d.1 = 1 ∨ d.2.2 = 0)
instance (d : De) : Decidable (dOk d) := by unfold dOk; infer_instance
theorem tr_fn0 {H : List Ob} {gg : List (Option Nat)} {g : FuncId} : TrV H gg (.c (.fn g [])) (.c (.fn g [])) := .c (.fn rfl (fun j c c' h => by simp at h))
def fix {α : Type} (pr : α → Prop) [DecidablePred pr] (xs : List α) : Int := match xs.findIdx? (fun x => decide (pr x)) with
  | some i => (i : Int)
  | none => -1
theorem fix_none {α : Type} {pr : α → Prop} [DecidablePred pr] {xs : List α} (h : ∀ x ∈ xs, ¬ pr x) : fix pr xs = -1 := by
  unfold fix
  rw [List.findIdx?_eq_none_iff.2 (by simpa using h)]
theorem fix_hit {α : Type} {pr : α → Prop} [DecidablePred pr] {xs : List α} {i : Nat} (hi : i < xs.length) (h : ∀ x ∈ xs.take i, ¬ pr x) (h1 : pr xs[i]) : fix pr xs = i := by
  unfold fix
  rw [List.findIdx?_eq_some_iff_getElem.2 ⟨hi, by simpa using h1, fun j hj => by
    simpa using h xs[j] (by rw [List.mem_take_iff_getElem]; exact ⟨j, by omega, rfl⟩)⟩]
theorem fix_ge {α : Type} (pr : α → Prop) [DecidablePred pr] (xs : List α) : 0 ≤ fix pr xs ↔ ∃ x ∈ xs, pr x := by
  unfold fix
  cases h : xs.findIdx? (fun x => decide (pr x)) with
  | none =>
    have := List.findIdx?_eq_none_iff.1 h
    simp only [decide_eq_false_iff_not] at this
    constructor
    · intro h; exact absurd (show (0 : Int) ≤ -1 from h) (by decide)
    · rintro ⟨x, h1, h2⟩; exact absurd h2 (this x h1)
  | some i =>
    obtain ⟨h1, h2, -⟩ := List.findIdx?_eq_some_iff_getElem.1 h
    exact ⟨fun _ => ⟨_, List.getElem_mem h1, by simpa using h2⟩, fun _ => by simp only []; omega⟩
/-- The code of a centre, of deeds, and of a post. -/
def dcR (p : Int) (fs : List Int) (ds : List De) (post : Int) : Int := if ¬ okC p fs ∨ ∃ d ∈ ds, ¬ dOk d then 1 else if ds.length > 200 ∨ ¬ (0 ≤ post ∧ post ≤ fs.length - 1) then 2 else 0
/-- The code of a centre and of deeds. -/
def gvR (p : Int) (fs : List Int) (ds : List De) : Int := if ¬ okC p fs ∨ ∃ d ∈ ds, ¬ dOk d then 1 else if ds.length > 200 then 2 else 0
theorem gv_1 {p : Int} {fs : List Int} {ds : List De} (h : ¬ okC p fs ∨ ∃ d ∈ ds, ¬ dOk d) : gvR p fs ds = 1 := by unfold gvR; rw [if_pos h]
theorem gv_2 {p : Int} {fs : List Int} {ds : List De} (h1 : okC p fs) (h2 : ∀ d ∈ ds, dOk d) (h : ds.length > 200) : gvR p fs ds = 2 := by unfold gvR; rw [if_neg (fun h3 => h3.elim (fun h4 => h4 h1) fun ⟨d, k1, k2⟩ => k2 (h2 d k1)), if_pos h]
theorem gv_0 {p : Int} {fs : List Int} {ds : List De} (h1 : okC p fs) (h2 : ∀ d ∈ ds, dOk d) (h : ¬ ds.length > 200) : gvR p fs ds = 0 := by unfold gvR; rw [if_neg (fun h3 => h3.elim (fun h4 => h4 h1) fun ⟨d, k1, k2⟩ => k2 (h2 d k1)), if_neg h]
theorem gv_ok {p : Int} {fs : List Int} {ds : List De} (h : gvR p fs ds = 0) : okC p fs ∧ (∀ d ∈ ds, dOk d) ∧ ds.length ≤ 200 := by
  unfold gvR at h
  split at h
  · cases h
  · rename_i h1
    split at h
    · cases h
    · rename_i h2
      exact ⟨Decidable.of_not_not fun h3 => h1 (.inl h3), fun d hd => Decidable.of_not_not fun h3 => h1 (.inr ⟨d, hd, h3⟩), by omega⟩
theorem dc_gv (p : Int) (fs : List Int) (ds : List De) : dcR p fs ds 0 = gvR p fs ds := by
  unfold dcR gvR
  by_cases h : ¬ okC p fs ∨ ∃ d ∈ ds, ¬ dOk d
  · rw [if_pos h, if_pos h]
  · rw [if_neg h, if_neg h]
    have hk : okC p fs := Decidable.of_not_not fun h2 => h (.inl h2)
    have := hk.2.2.1
    by_cases h2 : ds.length > 200
    · rw [if_pos (.inl h2), if_pos h2]
    · rw [if_neg (fun h3 => h3.elim h2 fun h4 => h4 ⟨by omega, by omega⟩), if_neg h2]
theorem c13 (d : De) : PureC X 13 [.agg (dce d)] (.agg (dce d)) := by
  refine PureC.of_body (drawD_ok X) (fun _ _ => Go.Proofs.Try.call13 _ _) Go.Proofs.Try.func13 rfl (n := 14) rfl ?_
  refine w_seq ?_
  refine w_reg rfl ?_
  refine v_box (m := 0) (H' := [_]) lay23 rfl rfl rfl ?_
  refine v_alloc (m := 1) (H' := [_, ⟨[.v _, .v _, .v _], 25, true⟩]) lay25 rfl rfl ?_
  refine v_nil ?_
  refine q_n ?_
  refine w_seq ?_
  refine w_reg rfl ?_
  refine v_alloc (m := 2) (H' := [_, _, ⟨[.v _, .v _, .v _], 25, true⟩]) lay25 rfl rfl ?_
  refine v_nil ?_
  refine q_n ?_
  refine w_seq ?_
  refine w_reg rfl ?_
  refine v_fa_pt (off' := 0) lay23 rfl rfl rfl ?_
  refine v_load_pt (.c _) lay2 rfl rfl rfl rfl ?_
  refine v_fa_pt (off' := 0) lay25 rfl rfl rfl ?_
  refine v_store (H' := [_, _, ⟨[_, _, _], 25, true⟩]) lay2 rfl rfl rfl rfl rfl rfl ?_
  refine v_nil ?_
  refine q_n ?_
  refine w_seq ?_
  refine w_reg rfl ?_
  refine v_fa_pt (off' := 1) lay23 rfl rfl rfl ?_
  refine v_load_pt (.c _) lay2 rfl rfl rfl rfl ?_
  refine v_fa_pt (off' := 1) lay25 rfl rfl rfl ?_
  refine v_store (H' := [_, _, ⟨[_, _, _], 25, true⟩]) lay2 rfl rfl rfl rfl rfl rfl ?_
  refine v_nil ?_
  refine q_n ?_
  refine w_seq ?_
  refine w_reg rfl ?_
  refine v_fa_pt (off' := 2) lay23 rfl rfl rfl ?_
  refine v_load_pt (.c _) lay2 rfl rfl rfl rfl ?_
  refine v_fa_pt (off' := 2) lay25 rfl rfl rfl ?_
  refine v_store (H' := [_, _, ⟨[_, _, _], 25, true⟩]) lay2 rfl rfl rfl rfl rfl rfl ?_
  refine v_nil ?_
  refine q_n ?_
  refine w_seq ?_
  refine w_reg rfl ?_
  refine v_load_pt (.agg [_, _, _]) lay25 rfl rfl rfl rfl ?_
  refine v_store (H' := [_, ⟨[_, _, _], 25, true⟩, _]) lay25 rfl rfl rfl rfl rfl rfl ?_
  refine v_nil ?_
  refine q_n ?_
  refine w_ret ?_
  refine r_r rfl ?_
  exact a_agg (.cons tr_v (.cons tr_v (.cons tr_v .nil)))

theorem c14 (d : De) : PureC X 14 [.agg (dce d)] (cB (decide (dOk d))) := by
  refine PureC.of_body (drawD_ok X) (fun _ _ => Go.Proofs.Try.call14 _ _) Go.Proofs.Try.func14 rfl (n := 26) rfl ?_
  refine w_seq ?_
  refine w_reg rfl ?_
  refine v_box (m := 0) (H' := [_]) lay25 rfl rfl rfl ?_
  refine v_assign (c := .v (.bool false)) rfl ?_
  refine v_nil ?_
  refine q_n ?_
  refine w_seq ?_
  refine w_reg rfl ?_
  refine v_fa_pt (off' := 0) lay25 rfl rfl rfl ?_
  refine v_load_pt (.c _) lay2 rfl rfl rfl rfl ?_
  refine v_callb (c52 _ _ _) rfl rfl (.cons vw_v (.cons vw_v (.cons vw_v .nil))) (fun h1 => ?_) (fun h1 => ?_)
  · skip
    refine v_move rfl ?_
    refine v_guard_on rfl rfl ?_
    refine v_fa_pt (off' := 1) lay25 rfl rfl rfl ?_
    refine v_guard_on rfl rfl ?_
    refine v_load_pt (.c _) lay2 rfl rfl rfl rfl ?_
    refine v_guard_on rfl rfl ?_
    refine v_callb (c52 _ _ _) rfl rfl (.cons vw_v (.cons vw_v (.cons vw_v .nil))) (fun h2 => ?_) (fun h2 => ?_)
    · skip
      refine v_pick_t rfl rfl ?_
      refine v_move rfl ?_
      refine v_guard_on rfl rfl ?_
      refine v_fa_pt (off' := 2) lay25 rfl rfl rfl ?_
      refine v_guard_on rfl rfl ?_
      refine v_load_pt (.c _) lay2 rfl rfl rfl rfl ?_
      refine v_guard_on rfl rfl ?_
      refine v_callb (c52 _ _ _) rfl rfl (.cons vw_v (.cons vw_v (.cons vw_v .nil))) (fun h3 => ?_) (fun h3 => ?_)
      · skip
        refine v_pick_t rfl rfl ?_
        refine v_move rfl ?_
        refine v_guard_on rfl rfl ?_
        refine v_fa_pt (off' := 0) lay25 rfl rfl rfl ?_
        refine v_guard_on rfl rfl ?_
        refine v_load_pt (.c _) lay2 rfl rfl rfl rfl ?_
        refine v_guard_on rfl rfl ?_
        refine v_eql lay2 rfl rfl (fun h4 => ?_) (fun h4 => ?_)
        · skip
          refine v_guard_on rfl rfl ?_
          refine v_move rfl ?_
          refine v_guard_off rfl rfl rfl ?_
          refine v_guard_off rfl rfl rfl ?_
          refine v_guard_off rfl rfl rfl ?_
          refine v_guard_on rfl rfl ?_
          refine v_pick_t (v := .v (.bool true)) rfl rfl ?_
          refine v_pick_t rfl rfl ?_
          refine v_assign rfl ?_
          refine v_nil ?_
          refine q_n ?_
          refine w_ret ?_
          refine r_r rfl ?_
          exact a_b (by unfold dOk; grind)
        · skip
          refine v_guard_on rfl rfl ?_
          refine v_move rfl ?_
          refine v_guard_on rfl rfl ?_
          refine v_fa_pt (off' := 2) lay25 rfl rfl rfl ?_
          refine v_guard_on rfl rfl ?_
          refine v_load_pt (.c _) lay2 rfl rfl rfl rfl ?_
          refine v_guard_on rfl rfl ?_
          refine v_eql lay2 rfl rfl (fun h5 => ?_) (fun h5 => ?_)
          · skip
            refine v_guard_on rfl rfl ?_
            refine v_pick_f rfl rfl ?_
            refine v_pick_t rfl rfl ?_
            refine v_assign rfl ?_
            refine v_nil ?_
            refine q_n ?_
            refine w_ret ?_
            refine r_r rfl ?_
            exact a_b (by unfold dOk; grind)
          · skip
            refine v_guard_on rfl rfl ?_
            refine v_pick_f rfl rfl ?_
            refine v_pick_t rfl rfl ?_
            refine v_assign rfl ?_
            refine v_nil ?_
            refine q_n ?_
            refine w_ret ?_
            refine r_r rfl ?_
            exact a_b (by unfold dOk; grind)
      · skip
        refine v_pick_t rfl rfl ?_
        refine v_move rfl ?_
        refine v_guard_off rfl rfl rfl ?_
        refine v_guard_off rfl rfl rfl ?_
        refine v_guard_off rfl rfl rfl ?_
        refine v_guard_off rfl rfl rfl ?_
        refine v_guard_un rfl rfl ?_
        refine v_guard_un rfl rfl ?_
        refine v_guard_un rfl rfl ?_
        refine v_guard_off rfl rfl rfl ?_
        refine v_pick_f (v := .v (.bool false)) rfl rfl ?_
        refine v_assign rfl ?_
        refine v_nil ?_
        refine q_n ?_
        refine w_ret ?_
        refine r_r rfl ?_
        exact a_b (by unfold dOk; grind)
    · skip
      refine v_pick_t rfl rfl ?_
      refine v_move rfl ?_
      refine v_guard_off rfl rfl rfl ?_
      refine v_guard_off rfl rfl rfl ?_
      refine v_guard_off rfl rfl rfl ?_
      refine v_pick_f (v := .v (.bool false)) rfl rfl ?_
      refine v_move rfl ?_
      refine v_guard_off rfl rfl rfl ?_
      refine v_guard_off rfl rfl rfl ?_
      refine v_guard_off rfl rfl rfl ?_
      refine v_guard_off rfl rfl rfl ?_
      refine v_guard_un rfl rfl ?_
      refine v_guard_un rfl rfl ?_
      refine v_guard_un rfl rfl ?_
      refine v_guard_off rfl rfl rfl ?_
      refine v_pick_f (v := .v (.bool false)) rfl rfl ?_
      refine v_assign rfl ?_
      refine v_nil ?_
      refine q_n ?_
      refine w_ret ?_
      refine r_r rfl ?_
      exact a_b (by unfold dOk; grind)
  · skip
    refine v_move rfl ?_
    refine v_guard_off rfl rfl rfl ?_
    refine v_guard_off rfl rfl rfl ?_
    refine v_guard_off rfl rfl rfl ?_
    refine v_pick_f (v := .v (.bool false)) rfl rfl ?_
    refine v_move rfl ?_
    refine v_guard_off rfl rfl rfl ?_
    refine v_guard_off rfl rfl rfl ?_
    refine v_guard_off rfl rfl rfl ?_
    refine v_pick_f (v := .v (.bool false)) rfl rfl ?_
    refine v_move rfl ?_
    refine v_guard_off rfl rfl rfl ?_
    refine v_guard_off rfl rfl rfl ?_
    refine v_guard_off rfl rfl rfl ?_
    refine v_guard_off rfl rfl rfl ?_
    refine v_guard_un rfl rfl ?_
    refine v_guard_un rfl rfl ?_
    refine v_guard_un rfl rfl ?_
    refine v_guard_off rfl rfl rfl ?_
    refine v_pick_f (v := .v (.bool false)) rfl rfl ?_
    refine v_assign rfl ?_
    refine v_nil ?_
    refine q_n ?_
    refine w_ret ?_
    refine r_r rfl ?_
    exact a_b (by unfold dOk; grind)

theorem c51 (d : De) : PureC X 51 [.agg (dce d)] (cB (decide (dOk d))) := by
  refine PureC.of_body (drawD_ok X) (fun _ _ => Go.Proofs.Try.call51 _ _) Go.Proofs.Try.func51 rfl (n := 27) rfl ?_
  refine w_seq ?_
  refine w_reg rfl ?_
  refine v_box (m := 0) (H' := [_]) lay25 rfl rfl rfl ?_
  refine v_assign (c := .v (.bool false)) rfl ?_
  refine v_nil ?_
  refine q_n ?_
  refine w_seq ?_
  refine w_seq ?_
  refine w_reg rfl ?_
  refine v_fa_pt (off' := 0) lay25 rfl rfl rfl ?_
  refine v_load_pt (.c _) lay2 rfl rfl rfl rfl ?_
  refine v_callb (c64 _ _ _) rfl rfl (.cons vw_v (.cons vw_v (.cons vw_v .nil))) (fun h1 => ?_) (fun h1 => ?_)
  · skip
    refine v_not false rfl rfl ?_
    refine v_move rfl ?_
    refine v_guard_on rfl rfl ?_
    refine v_fa_pt (off' := 1) lay25 rfl rfl rfl ?_
    refine v_guard_on rfl rfl ?_
    refine v_load_pt (.c _) lay2 rfl rfl rfl rfl ?_
    refine v_guard_on rfl rfl ?_
    refine v_callb (c64 _ _ _) rfl rfl (.cons vw_v (.cons vw_v (.cons vw_v .nil))) (fun h2 => ?_) (fun h2 => ?_)
    · skip
      refine v_guard_on rfl rfl ?_
      refine v_not false rfl rfl ?_
      refine v_pick_f rfl rfl ?_
      refine v_move rfl ?_
      refine v_guard_on rfl rfl ?_
      refine v_fa_pt (off' := 2) lay25 rfl rfl rfl ?_
      refine v_guard_on rfl rfl ?_
      refine v_load_pt (.c _) lay2 rfl rfl rfl rfl ?_
      refine v_guard_on rfl rfl ?_
      refine v_callb (c64 _ _ _) rfl rfl (.cons vw_v (.cons vw_v (.cons vw_v .nil))) (fun h3 => ?_) (fun h3 => ?_)
      · skip
        refine v_guard_on rfl rfl ?_
        refine v_not false rfl rfl ?_
        refine v_pick_f rfl rfl ?_
        refine v_nil ?_
        refine q_n ?_
        refine w_f rfl ?_
        refine w_skip ?_
        refine q_n ?_
        refine w_seq ?_
        refine w_reg rfl ?_
        refine v_fa_pt (off' := 0) lay25 rfl rfl rfl ?_
        refine v_load_pt (.c _) lay2 rfl rfl rfl rfl ?_
        refine v_eql lay2 rfl rfl (fun h4 => ?_) (fun h4 => ?_)
        · skip
          refine v_move rfl ?_
          refine v_guard_off rfl rfl rfl ?_
          refine v_guard_off rfl rfl rfl ?_
          refine v_guard_off rfl rfl rfl ?_
          refine v_pick_t (v := .v (.bool true)) rfl rfl ?_
          refine v_assign rfl ?_
          refine v_nil ?_
          refine q_n ?_
          refine w_ret ?_
          refine r_r rfl ?_
          exact a_b (by unfold dOk; grind)
        · skip
          refine v_move rfl ?_
          refine v_guard_on rfl rfl ?_
          refine v_fa_pt (off' := 2) lay25 rfl rfl rfl ?_
          refine v_guard_on rfl rfl ?_
          refine v_load_pt (.c _) lay2 rfl rfl rfl rfl ?_
          refine v_guard_on rfl rfl ?_
          refine v_eql lay2 rfl rfl (fun h5 => ?_) (fun h5 => ?_)
          · skip
            refine v_pick_f rfl rfl ?_
            refine v_assign rfl ?_
            refine v_nil ?_
            refine q_n ?_
            refine w_ret ?_
            refine r_r rfl ?_
            exact a_b (by unfold dOk; grind)
          · skip
            refine v_pick_f rfl rfl ?_
            refine v_assign rfl ?_
            refine v_nil ?_
            refine q_n ?_
            refine w_ret ?_
            refine r_r rfl ?_
            exact a_b (by unfold dOk; grind)
      · skip
        refine v_guard_on rfl rfl ?_
        refine v_not true rfl rfl ?_
        refine v_pick_f rfl rfl ?_
        refine v_nil ?_
        refine q_n ?_
        refine w_t rfl ?_
        refine w_seq ?_
        refine w_reg rfl ?_
        refine v_assign (c := .v (.bool false)) rfl ?_
        refine v_nil ?_
        refine q_n ?_
        refine w_ret (q_r ?_)
        refine r_r rfl ?_
        exact a_b (by unfold dOk; grind)
    · skip
      refine v_guard_on rfl rfl ?_
      refine v_not true rfl rfl ?_
      refine v_pick_f rfl rfl ?_
      refine v_move rfl ?_
      refine v_guard_off rfl rfl rfl ?_
      refine v_guard_off rfl rfl rfl ?_
      refine v_guard_off rfl rfl rfl ?_
      refine v_guard_off rfl rfl rfl ?_
      refine v_pick_t (v := .v (.bool true)) rfl rfl ?_
      refine v_nil ?_
      refine q_n ?_
      refine w_t rfl ?_
      refine w_seq ?_
      refine w_reg rfl ?_
      refine v_assign (c := .v (.bool false)) rfl ?_
      refine v_nil ?_
      refine q_n ?_
      refine w_ret (q_r ?_)
      refine r_r rfl ?_
      exact a_b (by unfold dOk; grind)
  · skip
    refine v_not true rfl rfl ?_
    refine v_move rfl ?_
    refine v_guard_off rfl rfl rfl ?_
    refine v_guard_off rfl rfl rfl ?_
    refine v_guard_off rfl rfl rfl ?_
    refine v_guard_off rfl rfl rfl ?_
    refine v_pick_t (v := .v (.bool true)) rfl rfl ?_
    refine v_move rfl ?_
    refine v_guard_off rfl rfl rfl ?_
    refine v_guard_off rfl rfl rfl ?_
    refine v_guard_off rfl rfl rfl ?_
    refine v_guard_off rfl rfl rfl ?_
    refine v_pick_t (v := .v (.bool true)) rfl rfl ?_
    refine v_nil ?_
    refine q_n ?_
    refine w_t rfl ?_
    refine w_seq ?_
    refine w_reg rfl ?_
    refine v_assign (c := .v (.bool false)) rfl ?_
    refine v_nil ?_
    refine q_n ?_
    refine w_ret (q_r ?_)
    refine r_r rfl ?_
    exact a_b (by unfold dOk; grind)

theorem c63 (d e : De) : PureC X 63 [.agg (dce d), .agg (dce e)] (cB (decide (d = e))) := by
  refine PureC.of_body (drawD_ok X) (fun _ _ => Go.Proofs.Try.call63 _ _) Go.Proofs.Try.func63 rfl (n := 20) rfl ?_
  refine w_seq ?_
  refine w_reg rfl ?_
  refine v_box (m := 0) (H' := [_]) lay25 rfl rfl rfl ?_
  refine v_box (m := 1) (H' := [_, _]) lay25 rfl rfl rfl ?_
  refine v_assign (c := .v (.bool false)) rfl ?_
  refine v_nil ?_
  refine q_n ?_
  refine w_seq ?_
  refine w_seq ?_
  refine w_reg rfl ?_
  refine v_fa_pt (off' := 0) lay25 rfl rfl rfl ?_
  refine v_load_pt (.c _) lay2 rfl rfl rfl rfl ?_
  refine v_fa_pt (off' := 0) lay25 rfl rfl rfl ?_
  refine v_load_pt (.c _) lay2 rfl rfl rfl rfl ?_
  refine v_neq lay2 rfl rfl (fun h1 => ?_) (fun h1 => ?_)
  · skip
    refine v_nil ?_
    refine q_n ?_
    refine w_t rfl ?_
    refine w_seq ?_
    refine w_reg rfl ?_
    refine v_assign (c := .v (.bool false)) rfl ?_
    refine v_nil ?_
    refine q_n ?_
    refine w_ret (q_r ?_)
    refine r_r rfl ?_
    exact a_b (by rw [de_ext]; grind)
  · skip
    refine v_nil ?_
    refine q_n ?_
    refine w_f rfl ?_
    refine w_skip ?_
    refine q_n ?_
    refine w_seq ?_
    refine w_seq ?_
    refine w_reg rfl ?_
    refine v_fa_pt (off' := 1) lay25 rfl rfl rfl ?_
    refine v_load_pt (.c _) lay2 rfl rfl rfl rfl ?_
    refine v_fa_pt (off' := 1) lay25 rfl rfl rfl ?_
    refine v_load_pt (.c _) lay2 rfl rfl rfl rfl ?_
    refine v_neq lay2 rfl rfl (fun h2 => ?_) (fun h2 => ?_)
    · skip
      refine v_nil ?_
      refine q_n ?_
      refine w_t rfl ?_
      refine w_seq ?_
      refine w_reg rfl ?_
      refine v_assign (c := .v (.bool false)) rfl ?_
      refine v_nil ?_
      refine q_n ?_
      refine w_ret (q_r ?_)
      refine r_r rfl ?_
      exact a_b (by rw [de_ext]; grind)
    · skip
      refine v_nil ?_
      refine q_n ?_
      refine w_f rfl ?_
      refine w_skip ?_
      refine q_n ?_
      refine w_seq ?_
      refine w_seq ?_
      refine w_reg rfl ?_
      refine v_fa_pt (off' := 2) lay25 rfl rfl rfl ?_
      refine v_load_pt (.c _) lay2 rfl rfl rfl rfl ?_
      refine v_fa_pt (off' := 2) lay25 rfl rfl rfl ?_
      refine v_load_pt (.c _) lay2 rfl rfl rfl rfl ?_
      refine v_neq lay2 rfl rfl (fun h3 => ?_) (fun h3 => ?_)
      · skip
        refine v_nil ?_
        refine q_n ?_
        refine w_t rfl ?_
        refine w_seq ?_
        refine w_reg rfl ?_
        refine v_assign (c := .v (.bool false)) rfl ?_
        refine v_nil ?_
        refine q_n ?_
        refine w_ret (q_r ?_)
        refine r_r rfl ?_
        exact a_b (by rw [de_ext]; grind)
      · skip
        refine v_nil ?_
        refine q_n ?_
        refine w_f rfl ?_
        refine w_skip ?_
        refine q_n ?_
        refine w_seq ?_
        refine w_reg rfl ?_
        refine v_assign (c := .v (.bool true)) rfl ?_
        refine v_nil ?_
        refine q_n ?_
        refine w_ret ?_
        refine r_r rfl ?_
        exact a_b (by rw [de_ext]; grind)

theorem c20 (xs : List De) (l : Int) (hl : 0 ≤ l ∧ l ≤ 2 ^ 20) (hx : xs.length ≤ maxLen) : PureC X 20 [.c (dcs false xs), cI l] (cI (szr xs.length l)) := by
  refine PureC.of_body (drawD_ok X) (fun _ _ => Go.Proofs.Try.call20 _ _) Go.Proofs.Try.func20 rfl (n := 12) rfl ?_
  refine w_seq ?_
  refine w_reg rfl ?_
  refine v_assign (c := .v (.int .i64 0)) rfl ?_
  refine v_nil ?_
  refine q_n ?_
  refine w_seq ?_
  refine w_reg rfl ?_
  refine v_move rfl ?_
  refine v_move rfl ?_
  refine v_len_sl lay37 rfl ?_
  refine v_sub lay3 rfl rfl (i64r (by unfold maxLen at hx; omega)) ?_
  refine v_assign rfl ?_
  refine v_nil ?_
  refine q_n ?_
  refine w_seq ?_
  refine w_seq ?_
  refine w_reg rfl ?_
  refine v_move rfl ?_
  refine v_lss lay3 rfl rfl (fun h1 => ?_) (fun h1 => ?_)
  · skip
    refine v_nil ?_
    refine q_n ?_
    refine w_t rfl ?_
    refine w_seq ?_
    refine w_reg rfl ?_
    refine v_assign (c := .v (.int .i64 (-1))) rfl ?_
    refine v_nil ?_
    refine q_n ?_
    refine w_ret (q_r ?_)
    refine r_r rfl ?_
    exact a_i (by unfold szr; rw [if_pos h1])
  · skip
    refine v_nil ?_
    refine q_n ?_
    refine w_f rfl ?_
    refine w_skip ?_
    refine q_n ?_
    refine w_seq ?_
    refine w_reg rfl ?_
    refine v_move rfl ?_
    refine v_assign rfl ?_
    refine v_nil ?_
    refine q_n ?_
    refine w_ret ?_
    refine r_r rfl ?_
    exact a_i (by unfold szr; rw [if_neg h1])

theorem c22 (xs : List De) (hx : xs.length ≤ 2 ^ 40) : PureC X 22 [.c (dcs false xs)] (.c (dcs true xs)) := by
  refine PureC.of_body (drawD_ok X) (fun _ _ => Go.Proofs.Try.call22 _ _) Go.Proofs.Try.func22 rfl (n := 23) rfl ?_
  refine w_seq ?_
  refine w_reg rfl ?_
  refine v_assign rfl ?_
  refine v_nil ?_
  refine q_n ?_
  refine w_seq ?_
  refine w_reg rfl ?_
  refine v_move rfl ?_
  refine v_len_sl lay37 rfl ?_
  refine v_make (enc := dce) (a0 := ((0, 0, 0) : De)) (m := 0) (H' := [_]) rfl lay41 lay25 rfl rfl rfl rfl (xs.length) (rfl) (by unfold maxLen; simp only []; omega) rfl rfl ?_
  refine v_assign rfl ?_
  refine v_nil ?_
  refine q_n ?_
  refine w_seq ?_
  refine w_seq ?_
  refine w_reg rfl ?_
  refine v_assign (c := .v (.int .i64 0)) rfl ?_
  refine v_nil ?_
  refine q_n ?_
  refine w_block ?_
  refine w_loop (fun k sl H => ∃ i : Nat, k = xs.length - i ∧ i ≤ xs.length ∧ sl = sls [(0, .c (dcs false xs)), (3, .c (.mu 0 0 xs.length 3)), (4, cI i)] ∧ H = [⟨flat dce (xs.take i ++ List.replicate (xs.length - i) (0, 0, 0)), 25, true⟩]) ?_ ?_
  · refine ⟨_, _, _, ?_, 0, rfl, Nat.zero_le _, rfl, rfl⟩
    exact turn [some 0] rfl rfl rfl ⟨⟨_, rfl, .stay (stays_flat dce_sc _)⟩, trivial⟩ ⟨tr_sl, tr_mu rfl, tr_v, trivial⟩
  · rintro k sl H ⟨i, rfl, hi, rfl, rfl⟩
    refine w_seq ?_
    refine w_seq ?_
    refine w_reg rfl ?_
    refine v_move rfl ?_
    refine v_move rfl ?_
    refine v_len_sl lay37 rfl ?_
    refine v_lss lay3 rfl rfl (fun h1 => ?_) (fun h1 => ?_)
    · skip
      refine v_nil ?_
      refine q_n ?_
      refine w_t rfl ?_
      refine w_skip ?_
      refine q_n ?_
      refine w_seq ?_
      refine w_block ?_
      refine w_reg rfl ?_
      refine v_move rfl ?_
      refine v_move rfl ?_
      refine v_move rfl ?_
      refine v_move rfl ?_
      have hq2 : i < _ := (by omega : i < xs.length)
      refine v_idx_n (k := 3) i dce_len lay37 lay23 rfl rfl rfl (rfl) rfl hq2 ?_
      refine v_load_vw (.agg [.v _, .v _, .v _]) lay23 rfl rfl rfl ?_
      refine v_call (c13 _) rfl rfl rfl (.cons (vw_agg (.cons vw_v (.cons vw_v (.cons vw_v .nil)))) .nil) ?_
      have hq3 : i < _ := (by omega : i < xs.length)
      refine v_idx_mu_n (k := 3) (off := 0) i lay41 lay25 rfl rfl rfl hq3 ?_
      refine v_store_flat (H' := [_]) i 0 (xs[i]) dce_len lay25 rfl rfl rfl (by omega) (by simp; omega) rfl rfl (rfl) rfl ?_
      refine v_nil ?_
      refine q_bn ?_
      refine q_n ?_
      refine w_reg rfl ?_
      refine v_move rfl ?_
      refine v_add lay3 rfl rfl (i64r (by omega)) ?_
      refine v_assign rfl ?_
      refine v_nil ?_
      refine q_n ?_
      refine ⟨_, _, _, ?_, ⟨i + 1, rfl, by omega, rfl, rfl⟩, by omega⟩
      exact turn [some 0] rfl rfl rfl ⟨⟨_, rfl, by rw [fill_step hq2]; exact .stay (stays_flat dce_sc _)⟩, trivial⟩ ⟨tr_sl, tr_mu rfl, tr_v, trivial⟩
    · skip
      refine v_nil ?_
      refine q_n ?_
      refine w_f rfl ?_
      refine w_exit ?_
      refine q_e ?_
      refine q_e ?_
      refine q_hit ?_
      refine q_n ?_
      refine w_seq ?_
      refine w_reg rfl ?_
      refine v_move rfl ?_
      refine v_assign rfl ?_
      refine v_nil ?_
      refine q_n ?_
      refine w_ret ?_
      refine r_r rfl ?_
      obtain rfl : i = xs.length := by omega
      exact a_flat (t := 25) dce_sc dce_len (by simp) rfl

theorem c24 (xs ys : List De) (hx : xs.length ≤ 2 ^ 40) : PureC X 24 [.c (dcs false xs), .c (dcs false ys)] (cB (decide (xs = ys))) := by
  refine PureC.of_body (drawD_ok X) (fun _ _ => Go.Proofs.Try.call24 _ _) Go.Proofs.Try.func24 rfl (n := 27) rfl ?_
  refine w_seq ?_
  refine w_reg rfl ?_
  refine v_assign (c := .v (.bool false)) rfl ?_
  refine v_nil ?_
  refine q_n ?_
  refine w_seq ?_
  refine w_seq ?_
  refine w_reg rfl ?_
  refine v_move rfl ?_
  refine v_len_sl lay41 rfl ?_
  refine v_move rfl ?_
  refine v_len_sl lay41 rfl ?_
  refine v_neq lay3 rfl rfl (fun h1 => ?_) (fun h1 => ?_)
  · skip
    refine v_nil ?_
    refine q_n ?_
    refine w_t rfl ?_
    refine w_seq ?_
    refine w_reg rfl ?_
    refine v_assign (c := .v (.bool false)) rfl ?_
    refine v_nil ?_
    refine q_n ?_
    refine w_ret (q_r ?_)
    refine r_r rfl ?_
    exact a_b (by simp only [Bool.false_eq_true, false_iff]; rintro rfl; exact h1 rfl)
  · skip
    refine v_nil ?_
    refine q_n ?_
    refine w_f rfl ?_
    refine w_skip ?_
    refine q_n ?_
    refine w_seq ?_
    refine w_seq ?_
    refine w_reg rfl ?_
    refine v_assign (c := .v (.int .i64 0)) rfl ?_
    refine v_nil ?_
    refine q_n ?_
    refine w_block ?_
    refine w_loop (fun k sl H => ∃ i : Nat, k = xs.length - i ∧ i ≤ xs.length ∧ xs.take i = ys.take i ∧ sl = sls [(0, .c (dcs false xs)), (1, .c (dcs false ys)), (5, cI i)] ∧ H = []) ?_ ?_
    · refine ⟨_, _, _, ?_, 0, rfl, Nat.zero_le _, rfl, rfl, rfl⟩
      exact turn0 ⟨tr_sl, tr_sl, tr_v, trivial⟩
    · rintro k sl H ⟨i, rfl, hi, hp, rfl, rfl⟩
      refine w_seq ?_
      refine w_seq ?_
      refine w_reg rfl ?_
      refine v_move rfl ?_
      refine v_move rfl ?_
      refine v_len_sl lay41 rfl ?_
      refine v_lss lay3 rfl rfl (fun h2 => ?_) (fun h2 => ?_)
      · skip
        refine v_nil ?_
        refine q_n ?_
        refine w_t rfl ?_
        refine w_skip ?_
        refine q_n ?_
        refine w_seq ?_
        refine w_block ?_
        refine w_seq ?_
        refine w_draw [0, 0, 3, 7, 0, 0, 48, 112, 255, 511] [⟨0, 0, []⟩, ⟨1, 0, []⟩, ⟨2, 0, []⟩, ⟨3, 0, []⟩, ⟨4, 0, []⟩, ⟨5, 0, []⟩, ⟨6, 0, []⟩, ⟨7, 0, []⟩, ⟨8, 0, []⟩, ⟨9, 0, []⟩] rfl rfl ?_
        refine d_q rfl rfl rfl rfl rfl ?_
        refine v_move rfl ?_
        refine v_nil ?_
        refine d_q rfl rfl rfl rfl rfl ?_
        refine v_move rfl ?_
        refine v_nil ?_
        refine d_q rfl rfl rfl rfl rfl ?_
        have hq3 : i < _ := (by omega : i < xs.length)
        refine v_idx_n (k := 3) i dce_len lay41 lay25 rfl rfl rfl (rfl) rfl hq3 ?_
        refine v_nil ?_
        refine d_q rfl rfl rfl rfl rfl ?_
        refine v_load_vw (.agg [.v _, .v _, .v _]) lay25 rfl rfl rfl ?_
        refine v_nil ?_
        refine d_q rfl rfl rfl rfl rfl ?_
        refine v_move rfl ?_
        refine v_nil ?_
        refine d_q rfl rfl rfl rfl rfl ?_
        refine v_move rfl ?_
        refine v_nil ?_
        refine d_q rfl rfl rfl rfl rfl ?_
        have hq4 : i < _ := (by omega : i < ys.length)
        refine v_idx_n (k := 3) i dce_len lay41 lay25 rfl rfl rfl (rfl) rfl hq4 ?_
        refine v_nil ?_
        refine d_q rfl rfl rfl rfl rfl ?_
        refine v_load_vw (.agg [.v _, .v _, .v _]) lay25 rfl rfl rfl ?_
        refine v_nil ?_
        refine d_callb (c63 _ _) rfl rfl rfl rfl (.cons (vw_agg (.cons vw_v (.cons vw_v (.cons vw_v .nil)))) (.cons (vw_agg (.cons vw_v (.cons vw_v (.cons vw_v .nil)))) .nil)) (fun h5 => ?_) (fun h5 => ?_)
        · skip
          refine d_q rfl rfl rfl rfl rfl ?_
          refine v_not false rfl rfl ?_
          refine v_nil ?_
          refine d_nil ?_
          refine q_n ?_
          refine w_f rfl ?_
          refine w_skip ?_
          refine q_bn ?_
          refine q_n ?_
          refine w_reg rfl ?_
          refine v_move rfl ?_
          refine v_add lay3 rfl rfl (i64r (by omega)) ?_
          refine v_assign rfl ?_
          refine v_nil ?_
          refine q_n ?_
          refine ⟨_, _, _, ?_, ⟨i + 1, rfl, by omega, ?_, rfl, rfl⟩, by omega⟩
          · exact turn0 ⟨tr_sl, tr_sl, tr_v, trivial⟩
          · rw [List.take_succ_eq_append_getElem hq3, List.take_succ_eq_append_getElem hq4, hp, h5]
        · skip
          refine d_q rfl rfl rfl rfl rfl ?_
          refine v_not true rfl rfl ?_
          refine v_nil ?_
          refine d_nil ?_
          refine q_n ?_
          refine w_t rfl ?_
          refine w_seq ?_
          refine w_reg rfl ?_
          refine v_assign (c := .v (.bool false)) rfl ?_
          refine v_nil ?_
          refine q_n ?_
          refine w_ret (q_br (q_r (q_r (q_br (q_r ?_)))))
          refine r_r rfl ?_
          exact a_b (by simp only [Bool.false_eq_true, false_iff]; rintro rfl; exact h5 rfl)
      · skip
        refine v_nil ?_
        refine q_n ?_
        refine w_f rfl ?_
        refine w_exit ?_
        refine q_e ?_
        refine q_e ?_
        refine q_hit ?_
        refine q_n ?_
        refine w_seq ?_
        refine w_reg rfl ?_
        refine v_assign (c := .v (.bool true)) rfl ?_
        refine v_nil ?_
        refine q_n ?_
        refine w_ret ?_
        refine r_r rfl ?_
        have he : i = xs.length := by omega
        have hl : ys.length = xs.length := by omega
        rw [he, List.take_length, ← hl, List.take_length] at hp
        exact a_b (by simp only [true_iff]; exact hp)

theorem c100 (g : FuncId) (pr : De → Prop) [DecidablePred pr] (xs : List De) (hx : xs.length ≤ 2 ^ 40) (hF : ∀ x ∈ xs, PureC X g [.agg (dce x)] (cB (decide (pr x)))) : PureC X 100 [.c (dcs false xs), .c (.fn g [])] (cI (fix pr xs)) := by
  refine PureC.of_body (drawD_ok X) (fun _ _ => Go.Proofs.Try.call100 _ _) Go.Proofs.Try.func100 rfl (n := 19) rfl ?_
  refine w_seq ?_
  refine w_reg rfl ?_
  refine v_assign (c := .v (.int .i64 0)) rfl ?_
  refine v_nil ?_
  refine q_n ?_
  refine w_seq ?_
  refine w_seq ?_
  refine w_reg rfl ?_
  refine v_move rfl ?_
  refine v_len_sl lay41 rfl ?_
  refine v_move (c := .v (.int .i64 0)) rfl ?_
  refine v_nil ?_
  refine q_n ?_
  refine w_block ?_
  refine w_loop (fun k sl H => ∃ i : Nat, k = xs.length - i ∧ i ≤ xs.length ∧ (∀ x ∈ xs.take i, ¬ pr x) ∧ sl = sls [(0, .c (dcs false xs)), (1, .c (.fn g [])), (7, cI xs.length), (8, cI i)] ∧ H = []) ?_ ?_
  · refine ⟨_, _, _, ?_, 0, rfl, Nat.zero_le _, by simp, rfl, rfl⟩
    exact turn0 ⟨tr_sl, tr_fn0, tr_v, tr_v, trivial⟩
  · rintro k sl H ⟨i, rfl, hi, hp, rfl, rfl⟩
    refine w_seq ?_
    refine w_reg rfl ?_
    refine v_lss lay3 rfl rfl (fun h1 => ?_) (fun h1 => ?_)
    · skip
      refine v_nil ?_
      refine q_n ?_
      refine w_seq ?_
      refine w_t rfl ?_
      refine w_skip ?_
      refine q_n ?_
      refine w_seq ?_
      refine w_block ?_
      refine w_seq ?_
      refine w_reg rfl ?_
      refine v_move rfl ?_
      refine v_assign rfl ?_
      refine v_nil ?_
      refine q_n ?_
      refine w_seq ?_
      refine w_reg rfl ?_
      refine v_move rfl ?_
      refine v_move rfl ?_
      refine v_move rfl ?_
      have hq2 : i < _ := (by omega : i < xs.length)
      refine v_idx_n (k := 3) i dce_len lay41 lay25 rfl rfl rfl (rfl) rfl hq2 ?_
      refine v_load_vw (.agg [.v _, .v _, .v _]) lay25 rfl rfl rfl ?_
      refine v_callb (hF _ (List.getElem_mem hq2)) rfl rfl (.cons (vw_agg (.cons vw_v (.cons vw_v (.cons vw_v .nil)))) .nil) (fun h3 => ?_) (fun h3 => ?_)
      · skip
        refine v_nil ?_
        refine q_n ?_
        refine w_t rfl ?_
        refine w_seq ?_
        refine w_reg rfl ?_
        refine v_move rfl ?_
        refine v_assign rfl ?_
        refine v_nil ?_
        refine q_n ?_
        refine w_ret (q_br (q_r (q_r (q_br (q_r ?_)))))
        refine r_r rfl ?_
        exact a_i (fix_hit hq2 hp h3).symm
      · skip
        refine v_nil ?_
        refine q_n ?_
        refine w_f rfl ?_
        refine w_skip ?_
        refine q_bn ?_
        refine q_n ?_
        refine w_reg rfl ?_
        refine v_add lay3 rfl rfl (i64r (by omega)) ?_
        refine v_move rfl ?_
        refine v_nil ?_
        refine q_n ?_
        refine ⟨_, _, _, ?_, ⟨i + 1, rfl, by omega, ?_, rfl, rfl⟩, by omega⟩
        · exact turn0 ⟨tr_sl, tr_fn0, tr_v, tr_v, trivial⟩
        · exact all_step hq2 hp h3
    · skip
      refine v_nil ?_
      refine q_n ?_
      refine w_seq ?_
      refine w_f rfl ?_
      refine w_exit ?_
      refine q_e ?_
      refine q_e ?_
      refine q_hit ?_
      refine q_n ?_
      refine w_seq ?_
      refine w_reg rfl ?_
      refine v_assign (c := .v (.int .i64 (-1))) rfl ?_
      refine v_nil ?_
      refine q_n ?_
      refine w_ret ?_
      refine r_r rfl ?_
      obtain rfl : i = xs.length := by omega
      rw [List.take_length] at hp
      exact a_i (fix_none hp).symm

theorem c86 (d : De) : PureC X 86 [.agg (dce d)] (cB (decide (¬ dOk d))) := by
  refine PureC.of_body (drawD_ok X) (fun _ _ => Go.Proofs.Try.call86 _ _) Go.Proofs.Try.func86 rfl (n := 6) rfl ?_
  refine w_seq ?_
  refine w_reg rfl ?_
  refine v_box (m := 0) (H' := [_]) lay25 rfl rfl rfl ?_
  refine v_assign (c := .v (.bool false)) rfl ?_
  refine v_nil ?_
  refine q_n ?_
  refine w_seq ?_
  refine w_reg rfl ?_
  refine v_load_pt (.agg [_, _, _]) lay25 rfl rfl rfl rfl ?_
  refine v_callb (c14 _) rfl rfl (.cons (vw_agg (.cons vw_v (.cons vw_v (.cons vw_v .nil)))) .nil) (fun h1 => ?_) (fun h1 => ?_)
  · skip
    refine v_not false rfl rfl ?_
    refine v_assign rfl ?_
    refine v_nil ?_
    refine q_n ?_
    refine w_ret ?_
    refine r_r rfl ?_
    exact a_b (by simp_all)
  · skip
    refine v_not true rfl rfl ?_
    refine v_assign rfl ?_
    refine v_nil ?_
    refine q_n ?_
    refine w_ret ?_
    refine r_r rfl ?_
    exact a_b (by simp_all)

theorem c85 (g : FuncId) (pr : De → Prop) [DecidablePred pr] (xs : List De) (hx : xs.length ≤ 2 ^ 40) (hF : ∀ x ∈ xs, PureC X g [.agg (dce x)] (cB (decide (pr x)))) : PureC X 85 [.c (dcs false xs), .c (.fn g [])] (cB (decide (∃ x ∈ xs, pr x))) := by
  refine PureC.of_body (drawD_ok X) (fun _ _ => Go.Proofs.Try.call85 _ _) Go.Proofs.Try.func85 rfl (n := 9) rfl ?_
  refine w_seq ?_
  refine w_reg rfl ?_
  refine v_assign (c := .v (.bool false)) rfl ?_
  refine v_nil ?_
  refine q_n ?_
  refine w_seq ?_
  refine w_reg rfl ?_
  refine v_move rfl ?_
  refine v_move rfl ?_
  refine v_call (c100 _ pr _ hx hF) rfl rfl rfl (.cons vw_sl (.cons (vw_fn .nil) .nil)) ?_
  refine v_geq lay3 rfl rfl (fun h1 => ?_) (fun h1 => ?_)
  · skip
    refine v_assign rfl ?_
    refine v_nil ?_
    refine q_n ?_
    refine w_ret ?_
    refine r_r rfl ?_
    exact a_b (by simp only [true_iff]; exact (fix_ge _ _).1 h1)
  · skip
    refine v_assign rfl ?_
    refine v_nil ?_
    refine q_n ?_
    refine w_ret ?_
    refine r_r rfl ?_
    exact a_b (by simp only [Bool.false_eq_true, false_iff]; exact fun h => h1 ((fix_ge _ _).2 h))

theorem c88t (x : Int) : PureC X 88 [cB true, cI x] (cI x) := by
  refine PureC.of_body (drawD_ok X) (fun _ _ => Go.Proofs.Try.call88 _ _) Go.Proofs.Try.func88 rfl (n := 7) rfl ?_
  refine w_seq ?_
  refine w_reg rfl ?_
  refine v_assign (c := .v (.int .i64 0)) rfl ?_
  refine v_nil ?_
  refine q_n ?_
  refine w_seq ?_
  refine w_seq ?_
  refine w_reg rfl ?_
  refine v_move rfl ?_
  refine v_nil ?_
  refine q_n ?_
  refine w_t rfl ?_
  refine w_seq ?_
  refine w_reg rfl ?_
  refine v_move rfl ?_
  refine v_assign rfl ?_
  refine v_nil ?_
  refine q_n ?_
  refine w_ret (q_r ?_)
  refine r_r rfl ?_
  exact tr_v

theorem c88f (x : Int) : PureC X 88 [cB false, cI x] (cI 0) := by
  refine PureC.of_body (drawD_ok X) (fun _ _ => Go.Proofs.Try.call88 _ _) Go.Proofs.Try.func88 rfl (n := 7) rfl ?_
  refine w_seq ?_
  refine w_reg rfl ?_
  refine v_assign (c := .v (.int .i64 0)) rfl ?_
  refine v_nil ?_
  refine q_n ?_
  refine w_seq ?_
  refine w_seq ?_
  refine w_reg rfl ?_
  refine v_move rfl ?_
  refine v_nil ?_
  refine q_n ?_
  refine w_f rfl ?_
  refine w_skip ?_
  refine q_n ?_
  refine w_seq ?_
  refine w_reg rfl ?_
  refine v_assign (c := .v (.int .i64 0)) rfl ?_
  refine v_nil ?_
  refine q_n ?_
  refine w_ret ?_
  refine r_r rfl ?_
  exact tr_v

theorem c88 (b : Bool) (x : Int) : PureC X 88 [cB b, cI x] (cI (if b then x else 0)) := by
  cases b
  · exact c88f x
  · exact c88t x

theorem c87 (xs : List Int) (hx : xs.length ≤ 2 ^ 40) : PureC X 87 [.c (ints false xs)] (cI (firstNZ xs)) := by
  refine PureC.of_body (drawD_ok X) (fun _ _ => Go.Proofs.Try.call87 _ _) Go.Proofs.Try.func87 rfl (n := 15) rfl ?_
  refine w_seq ?_
  refine w_reg rfl ?_
  refine v_assign (c := .v (.int .i64 0)) rfl ?_
  refine v_nil ?_
  refine q_n ?_
  refine w_seq ?_
  refine w_seq ?_
  refine w_reg rfl ?_
  refine v_move rfl ?_
  refine v_len_sl lay28 rfl ?_
  refine v_move (c := .v (.int .i64 0)) rfl ?_
  refine v_nil ?_
  refine q_n ?_
  refine w_block ?_
  refine w_loop (fun k sl H => ∃ i : Nat, k = xs.length - i ∧ i ≤ xs.length ∧ (∀ x ∈ xs.take i, x = 0) ∧ sl = sls [(5, .c (ints false xs)), (6, cI xs.length), (7, cI i)] ∧ H = []) ?_ ?_
  · refine ⟨_, _, _, ?_, 0, rfl, Nat.zero_le _, by simp, rfl, rfl⟩
    exact turn0 ⟨tr_sl, tr_v, tr_v, trivial⟩
  · rintro k sl H ⟨i, rfl, hi, hp, rfl, rfl⟩
    refine w_seq ?_
    refine w_reg rfl ?_
    refine v_lss lay3 rfl rfl (fun h1 => ?_) (fun h1 => ?_)
    · skip
      refine v_nil ?_
      refine q_n ?_
      refine w_seq ?_
      refine w_t rfl ?_
      refine w_skip ?_
      refine q_n ?_
      refine w_seq ?_
      refine w_block ?_
      refine w_seq ?_
      refine w_reg rfl ?_
      have hq2 : i < _ := (by omega : i < xs.length)
      refine v_idx_n (k := 1) i int_len lay28 lay2 rfl rfl rfl (rfl) rfl hq2 ?_
      refine v_load_vw (.c (.v _)) lay2 rfl rfl rfl ?_
      refine v_assign rfl ?_
      refine v_nil ?_
      refine q_n ?_
      refine w_seq ?_
      refine w_reg rfl ?_
      refine v_move rfl ?_
      refine v_neq lay2 rfl rfl (fun h3 => ?_) (fun h3 => ?_)
      · skip
        refine v_nil ?_
        refine q_n ?_
        refine w_t rfl ?_
        refine w_seq ?_
        refine w_reg rfl ?_
        refine v_move rfl ?_
        refine v_assign rfl ?_
        refine v_nil ?_
        refine q_n ?_
        refine w_ret (q_br (q_r (q_r (q_br (q_r ?_)))))
        refine r_r rfl ?_
        exact a_i (firstNZ_hit hq2 hp h3).symm
      · skip
        refine v_nil ?_
        refine q_n ?_
        refine w_f rfl ?_
        refine w_skip ?_
        refine q_bn ?_
        refine q_n ?_
        refine w_reg rfl ?_
        refine v_add lay3 rfl rfl (i64r (by omega)) ?_
        refine v_move rfl ?_
        refine v_nil ?_
        refine q_n ?_
        refine ⟨_, _, _, ?_, ⟨i + 1, rfl, by omega, ?_, rfl, rfl⟩, by omega⟩
        · exact turn0 ⟨tr_sl, tr_v, tr_v, trivial⟩
        · exact all_step hq2 hp h3
    · skip
      refine v_nil ?_
      refine q_n ?_
      refine w_seq ?_
      refine w_f rfl ?_
      refine w_exit ?_
      refine q_e ?_
      refine q_e ?_
      refine q_hit ?_
      refine q_n ?_
      refine w_seq ?_
      refine w_reg rfl ?_
      refine v_assign (c := .v (.int .i64 0)) rfl ?_
      refine v_nil ?_
      refine q_n ?_
      refine w_ret ?_
      refine r_r rfl ?_
      obtain rfl : i = xs.length := by omega
      rw [List.take_length] at hp
      exact a_i (firstNZ_none hp).symm

theorem c89 (a n : Int) (hn : 0 ≤ n ∧ n ≤ 2 ^ 40) : PureC X 89 [cI a, cI n] (cB (decide (0 ≤ a ∧ a ≤ n - 1))) := by
  refine PureC.of_body (drawD_ok X) (fun _ _ => Go.Proofs.Try.call89 _ _) Go.Proofs.Try.func89 rfl (n := 9) rfl ?_
  refine w_seq ?_
  refine w_reg rfl ?_
  refine v_assign (c := .v (.bool false)) rfl ?_
  refine v_nil ?_
  refine q_n ?_
  refine w_seq ?_
  refine w_reg rfl ?_
  refine v_move rfl ?_
  refine v_move rfl ?_
  refine v_sub lay2 rfl rfl (i64r (by omega)) ?_
  refine v_callb (c52 _ _ _) rfl rfl (.cons vw_v (.cons vw_v (.cons vw_v .nil))) (fun h1 => ?_) (fun h1 => ?_)
  · skip
    refine v_assign rfl ?_
    refine v_nil ?_
    refine q_n ?_
    refine w_ret ?_
    refine r_r rfl ?_
    exact a_b (by simp_all)
  · skip
    refine v_assign rfl ?_
    refine v_nil ?_
    refine q_n ?_
    refine w_ret ?_
    refine r_r rfl ?_
    exact a_b (by simp_all)

theorem c60 (p : Int) (fs : List Int) (ds : List De) (post : Int) (hx : fs.length ≤ 2 ^ 40) (hd : ds.length ≤ 2 ^ 40) : PureC X 60 [.agg (cen false p fs), .c (dcs false ds), cI post] (cI (dcR p fs ds post)) := by
  refine PureC.of_body (drawD_ok X) (fun _ _ => Go.Proofs.Try.call60 _ _) Go.Proofs.Try.func60 rfl (n := 31) rfl ?_
  refine w_seq ?_
  refine w_reg rfl ?_
  refine v_box (m := 0) (H' := [_]) lay33 rfl rfl rfl ?_
  refine v_assign (c := .v (.int .i64 0)) rfl ?_
  refine v_nil ?_
  refine q_n ?_
  refine w_seq ?_
  refine w_reg rfl ?_
  refine v_load_pt (.agg [_, _]) lay33 rfl rfl rfl rfl ?_
  refine v_callb (c18 _ _ (by omega)) rfl rfl (.cons (vw_agg (.cons vw_v (.cons vw_sl .nil))) .nil) (fun h1 => ?_) (fun h1 => ?_)
  · skip
    refine v_not false rfl rfl ?_
    refine v_move rfl ?_
    refine v_guard_on rfl rfl ?_
    refine v_move rfl ?_
    refine v_guard_on rfl rfl ?_
    refine v_callb (c85 86 (fun d => ¬ dOk d) _ (by omega) (fun d _ => c86 d)) rfl rfl (.cons vw_sl (.cons (vw_fn .nil) .nil)) (fun h2 => ?_) (fun h2 => ?_)
    · skip
      refine v_pick_f rfl rfl ?_
      refine v_assign rfl ?_
      refine v_nil ?_
      refine q_n ?_
      refine w_seq ?_
      refine w_reg rfl ?_
      refine v_move rfl ?_
      refine v_call (c88 _ _) rfl rfl rfl (.cons vw_v (.cons vw_v .nil)) ?_
      refine v_move rfl ?_
      refine v_len_sl lay41 rfl ?_
      refine v_gtr lay3 rfl rfl (fun h3 => ?_) (fun h3 => ?_)
      · skip
        refine v_move rfl ?_
        refine v_guard_off rfl rfl rfl ?_
        refine v_guard_off rfl rfl rfl ?_
        refine v_guard_off rfl rfl rfl ?_
        refine v_guard_off rfl rfl rfl ?_
        refine v_guard_off rfl rfl rfl ?_
        refine v_guard_off rfl rfl rfl ?_
        refine v_pick_t (v := .v (.bool true)) rfl rfl ?_
        refine v_call (c88 _ _) rfl rfl rfl (.cons vw_v (.cons vw_v .nil)) ?_
        refine v_lit (flat int [_, _]) (H' := [_, _]) lay28 lay2 rfl rfl ⟨by decide, by decide⟩ rfl rfl ?_
        refine v_call (c87 [_, _] (Nat.le_of_ble_eq_true rfl)) rfl rfl rfl (.cons (vw_mu2 int_sc int_len rfl (by first | (simp; done) | (simp; omega))) .nil) ?_
        refine v_assign rfl ?_
        refine v_nil ?_
        refine q_n ?_
        refine w_ret ?_
        refine r_r rfl ?_
        exact a_i (by unfold dcR; simp only [firstNZ]; grind)
      · skip
        refine v_move rfl ?_
        refine v_guard_on rfl rfl ?_
        refine v_move rfl ?_
        refine v_guard_on rfl rfl ?_
        refine v_fa_pt (off' := 1) lay33 rfl rfl rfl ?_
        refine v_guard_on rfl rfl ?_
        refine v_load_pt (.c _) lay28 rfl rfl rfl rfl ?_
        refine v_guard_on rfl rfl ?_
        refine v_len_sl lay28 rfl ?_
        refine v_guard_on rfl rfl ?_
        refine v_callb (c89 _ _ (by omega)) rfl rfl (.cons vw_v (.cons vw_v .nil)) (fun h4 => ?_) (fun h4 => ?_)
        · skip
          refine v_guard_on rfl rfl ?_
          refine v_not false rfl rfl ?_
          refine v_pick_f rfl rfl ?_
          refine v_call (c88 _ _) rfl rfl rfl (.cons vw_v (.cons vw_v .nil)) ?_
          refine v_lit (flat int [_, _]) (H' := [_, _]) lay28 lay2 rfl rfl ⟨by decide, by decide⟩ rfl rfl ?_
          refine v_call (c87 [_, _] (Nat.le_of_ble_eq_true rfl)) rfl rfl rfl (.cons (vw_mu2 int_sc int_len rfl (by first | (simp; done) | (simp; omega))) .nil) ?_
          refine v_assign rfl ?_
          refine v_nil ?_
          refine q_n ?_
          refine w_ret ?_
          refine r_r rfl ?_
          exact a_i (by unfold dcR; simp only [firstNZ]; grind)
        · skip
          refine v_guard_on rfl rfl ?_
          refine v_not true rfl rfl ?_
          refine v_pick_f rfl rfl ?_
          refine v_call (c88 _ _) rfl rfl rfl (.cons vw_v (.cons vw_v .nil)) ?_
          refine v_lit (flat int [_, _]) (H' := [_, _]) lay28 lay2 rfl rfl ⟨by decide, by decide⟩ rfl rfl ?_
          refine v_call (c87 [_, _] (Nat.le_of_ble_eq_true rfl)) rfl rfl rfl (.cons (vw_mu2 int_sc int_len rfl (by first | (simp; done) | (simp; omega))) .nil) ?_
          refine v_assign rfl ?_
          refine v_nil ?_
          refine q_n ?_
          refine w_ret ?_
          refine r_r rfl ?_
          exact a_i (by unfold dcR; simp only [firstNZ]; grind)
    · skip
      refine v_pick_f rfl rfl ?_
      refine v_assign rfl ?_
      refine v_nil ?_
      refine q_n ?_
      refine w_seq ?_
      refine w_reg rfl ?_
      refine v_move rfl ?_
      refine v_call (c88 _ _) rfl rfl rfl (.cons vw_v (.cons vw_v .nil)) ?_
      refine v_move rfl ?_
      refine v_len_sl lay41 rfl ?_
      refine v_gtr lay3 rfl rfl (fun h5 => ?_) (fun h5 => ?_)
      · skip
        refine v_move rfl ?_
        refine v_guard_off rfl rfl rfl ?_
        refine v_guard_off rfl rfl rfl ?_
        refine v_guard_off rfl rfl rfl ?_
        refine v_guard_off rfl rfl rfl ?_
        refine v_guard_off rfl rfl rfl ?_
        refine v_guard_off rfl rfl rfl ?_
        refine v_pick_t (v := .v (.bool true)) rfl rfl ?_
        refine v_call (c88 _ _) rfl rfl rfl (.cons vw_v (.cons vw_v .nil)) ?_
        refine v_lit (flat int [_, _]) (H' := [_, _]) lay28 lay2 rfl rfl ⟨by decide, by decide⟩ rfl rfl ?_
        refine v_call (c87 [_, _] (Nat.le_of_ble_eq_true rfl)) rfl rfl rfl (.cons (vw_mu2 int_sc int_len rfl (by first | (simp; done) | (simp; omega))) .nil) ?_
        refine v_assign rfl ?_
        refine v_nil ?_
        refine q_n ?_
        refine w_ret ?_
        refine r_r rfl ?_
        exact a_i (by unfold dcR; simp only [firstNZ]; grind)
      · skip
        refine v_move rfl ?_
        refine v_guard_on rfl rfl ?_
        refine v_move rfl ?_
        refine v_guard_on rfl rfl ?_
        refine v_fa_pt (off' := 1) lay33 rfl rfl rfl ?_
        refine v_guard_on rfl rfl ?_
        refine v_load_pt (.c _) lay28 rfl rfl rfl rfl ?_
        refine v_guard_on rfl rfl ?_
        refine v_len_sl lay28 rfl ?_
        refine v_guard_on rfl rfl ?_
        refine v_callb (c89 _ _ (by omega)) rfl rfl (.cons vw_v (.cons vw_v .nil)) (fun h6 => ?_) (fun h6 => ?_)
        · skip
          refine v_guard_on rfl rfl ?_
          refine v_not false rfl rfl ?_
          refine v_pick_f rfl rfl ?_
          refine v_call (c88 _ _) rfl rfl rfl (.cons vw_v (.cons vw_v .nil)) ?_
          refine v_lit (flat int [_, _]) (H' := [_, _]) lay28 lay2 rfl rfl ⟨by decide, by decide⟩ rfl rfl ?_
          refine v_call (c87 [_, _] (Nat.le_of_ble_eq_true rfl)) rfl rfl rfl (.cons (vw_mu2 int_sc int_len rfl (by first | (simp; done) | (simp; omega))) .nil) ?_
          refine v_assign rfl ?_
          refine v_nil ?_
          refine q_n ?_
          refine w_ret ?_
          refine r_r rfl ?_
          exact a_i (by unfold dcR; simp only [firstNZ]; grind)
        · skip
          refine v_guard_on rfl rfl ?_
          refine v_not true rfl rfl ?_
          refine v_pick_f rfl rfl ?_
          refine v_call (c88 _ _) rfl rfl rfl (.cons vw_v (.cons vw_v .nil)) ?_
          refine v_lit (flat int [_, _]) (H' := [_, _]) lay28 lay2 rfl rfl ⟨by decide, by decide⟩ rfl rfl ?_
          refine v_call (c87 [_, _] (Nat.le_of_ble_eq_true rfl)) rfl rfl rfl (.cons (vw_mu2 int_sc int_len rfl (by first | (simp; done) | (simp; omega))) .nil) ?_
          refine v_assign rfl ?_
          refine v_nil ?_
          refine q_n ?_
          refine w_ret ?_
          refine r_r rfl ?_
          exact a_i (by unfold dcR; simp only [firstNZ]; grind)
  · skip
    refine v_not true rfl rfl ?_
    refine v_move rfl ?_
    refine v_guard_off rfl rfl rfl ?_
    refine v_guard_off rfl rfl rfl ?_
    refine v_pick_t (v := .v (.bool true)) rfl rfl ?_
    refine v_assign rfl ?_
    refine v_nil ?_
    refine q_n ?_
    refine w_seq ?_
    refine w_reg rfl ?_
    refine v_move rfl ?_
    refine v_call (c88 _ _) rfl rfl rfl (.cons vw_v (.cons vw_v .nil)) ?_
    refine v_move rfl ?_
    refine v_len_sl lay41 rfl ?_
    refine v_gtr lay3 rfl rfl (fun h7 => ?_) (fun h7 => ?_)
    · skip
      refine v_move rfl ?_
      refine v_guard_off rfl rfl rfl ?_
      refine v_guard_off rfl rfl rfl ?_
      refine v_guard_off rfl rfl rfl ?_
      refine v_guard_off rfl rfl rfl ?_
      refine v_guard_off rfl rfl rfl ?_
      refine v_guard_off rfl rfl rfl ?_
      refine v_pick_t (v := .v (.bool true)) rfl rfl ?_
      refine v_call (c88 _ _) rfl rfl rfl (.cons vw_v (.cons vw_v .nil)) ?_
      refine v_lit (flat int [_, _]) (H' := [_, _]) lay28 lay2 rfl rfl ⟨by decide, by decide⟩ rfl rfl ?_
      refine v_call (c87 [_, _] (Nat.le_of_ble_eq_true rfl)) rfl rfl rfl (.cons (vw_mu2 int_sc int_len rfl (by first | (simp; done) | (simp; omega))) .nil) ?_
      refine v_assign rfl ?_
      refine v_nil ?_
      refine q_n ?_
      refine w_ret ?_
      refine r_r rfl ?_
      exact a_i (by unfold dcR; simp only [firstNZ]; grind)
    · skip
      refine v_move rfl ?_
      refine v_guard_on rfl rfl ?_
      refine v_move rfl ?_
      refine v_guard_on rfl rfl ?_
      refine v_fa_pt (off' := 1) lay33 rfl rfl rfl ?_
      refine v_guard_on rfl rfl ?_
      refine v_load_pt (.c _) lay28 rfl rfl rfl rfl ?_
      refine v_guard_on rfl rfl ?_
      refine v_len_sl lay28 rfl ?_
      refine v_guard_on rfl rfl ?_
      refine v_callb (c89 _ _ (by omega)) rfl rfl (.cons vw_v (.cons vw_v .nil)) (fun h8 => ?_) (fun h8 => ?_)
      · skip
        refine v_guard_on rfl rfl ?_
        refine v_not false rfl rfl ?_
        refine v_pick_f rfl rfl ?_
        refine v_call (c88 _ _) rfl rfl rfl (.cons vw_v (.cons vw_v .nil)) ?_
        refine v_lit (flat int [_, _]) (H' := [_, _]) lay28 lay2 rfl rfl ⟨by decide, by decide⟩ rfl rfl ?_
        refine v_call (c87 [_, _] (Nat.le_of_ble_eq_true rfl)) rfl rfl rfl (.cons (vw_mu2 int_sc int_len rfl (by first | (simp; done) | (simp; omega))) .nil) ?_
        refine v_assign rfl ?_
        refine v_nil ?_
        refine q_n ?_
        refine w_ret ?_
        refine r_r rfl ?_
        exact a_i (by unfold dcR; simp only [firstNZ]; grind)
      · skip
        refine v_guard_on rfl rfl ?_
        refine v_not true rfl rfl ?_
        refine v_pick_f rfl rfl ?_
        refine v_call (c88 _ _) rfl rfl rfl (.cons vw_v (.cons vw_v .nil)) ?_
        refine v_lit (flat int [_, _]) (H' := [_, _]) lay28 lay2 rfl rfl ⟨by decide, by decide⟩ rfl rfl ?_
        refine v_call (c87 [_, _] (Nat.le_of_ble_eq_true rfl)) rfl rfl rfl (.cons (vw_mu2 int_sc int_len rfl (by first | (simp; done) | (simp; omega))) .nil) ?_
        refine v_assign rfl ?_
        refine v_nil ?_
        refine q_n ?_
        refine w_ret ?_
        refine r_r rfl ?_
        exact a_i (by unfold dcR; simp only [firstNZ]; grind)

theorem c58 (p : Int) (fs : List Int) (ds : List De) (hx : fs.length ≤ 2 ^ 40) (hd : ds.length ≤ 2 ^ 40) : PureC X 58 [.c (.vw false (cen false p fs) 0), .c (dcs false ds)] (cI (gvR p fs ds)) := by
  refine PureC.of_body (drawD_ok X) (fun _ _ => Go.Proofs.Try.call58 _ _) Go.Proofs.Try.func58 rfl (n := 24) rfl ?_
  refine w_seq ?_
  refine w_reg rfl ?_
  refine v_assign (c := .v (.int .i64 0)) rfl ?_
  refine v_nil ?_
  refine q_n ?_
  refine w_seq ?_
  refine w_seq ?_
  refine w_reg rfl ?_
  refine v_move rfl ?_
  refine v_callb (c54 _ _ (by omega)) rfl rfl (.cons vw_vw .nil) (fun h1 => ?_) (fun h1 => ?_)
  · skip
    refine v_not false rfl rfl ?_
    refine v_nil ?_
    refine q_n ?_
    refine w_f rfl ?_
    refine w_skip ?_
    refine q_n ?_
    refine w_seq ?_
    refine w_seq ?_
    refine w_reg rfl ?_
    refine v_assign (c := .v (.int .i64 0)) rfl ?_
    refine v_nil ?_
    refine q_n ?_
    refine w_block ?_
    refine w_loop (fun k sl H => ∃ i : Nat, k = ds.length - i ∧ i ≤ ds.length ∧ (∀ x ∈ ds.take i, dOk x) ∧ sl = sls [(1, .c (dcs false ds)), (5, cI i)] ∧ H = []) ?_ ?_
    · refine ⟨_, _, _, ?_, 0, rfl, Nat.zero_le _, by simp, rfl, rfl⟩
      exact turn0 ⟨tr_sl, tr_v, trivial⟩
    · rintro k sl H ⟨i, rfl, hi, hp, rfl, rfl⟩
      refine w_seq ?_
      refine w_seq ?_
      refine w_reg rfl ?_
      refine v_move rfl ?_
      refine v_move rfl ?_
      refine v_len_sl lay41 rfl ?_
      refine v_lss lay3 rfl rfl (fun h2 => ?_) (fun h2 => ?_)
      · skip
        refine v_nil ?_
        refine q_n ?_
        refine w_t rfl ?_
        refine w_skip ?_
        refine q_n ?_
        refine w_seq ?_
        refine w_block ?_
        refine w_seq ?_
        refine w_reg rfl ?_
        refine v_move rfl ?_
        refine v_move rfl ?_
        have hq3 : i < _ := (by omega : i < ds.length)
        refine v_idx_n (k := 3) i dce_len lay41 lay25 rfl rfl rfl (rfl) rfl hq3 ?_
        refine v_load_vw (.agg [.v _, .v _, .v _]) lay25 rfl rfl rfl ?_
        refine v_callb (c51 _) rfl rfl (.cons (vw_agg (.cons vw_v (.cons vw_v (.cons vw_v .nil)))) .nil) (fun h4 => ?_) (fun h4 => ?_)
        · skip
          refine v_not false rfl rfl ?_
          refine v_nil ?_
          refine q_n ?_
          refine w_f rfl ?_
          refine w_skip ?_
          refine q_bn ?_
          refine q_n ?_
          refine w_reg rfl ?_
          refine v_move rfl ?_
          refine v_add lay3 rfl rfl (i64r (by omega)) ?_
          refine v_assign rfl ?_
          refine v_nil ?_
          refine q_n ?_
          refine ⟨_, _, _, ?_, ⟨i + 1, rfl, by omega, ?_, rfl, rfl⟩, by omega⟩
          · exact turn0 ⟨tr_sl, tr_v, trivial⟩
          · exact all_step hq3 hp h4
        · skip
          refine v_not true rfl rfl ?_
          refine v_nil ?_
          refine q_n ?_
          refine w_t rfl ?_
          refine w_seq ?_
          refine w_reg rfl ?_
          refine v_assign (c := .v (.int .i64 1)) rfl ?_
          refine v_nil ?_
          refine q_n ?_
          refine w_ret (q_br (q_r (q_r (q_br (q_r ?_)))))
          refine r_r rfl ?_
          exact a_i (gv_1 (.inr ⟨_, List.getElem_mem hq3, h4⟩)).symm
      · skip
        refine v_nil ?_
        refine q_n ?_
        refine w_f rfl ?_
        refine w_exit ?_
        refine q_e ?_
        refine q_e ?_
        refine q_hit ?_
        refine q_n ?_
        refine w_seq ?_
        refine w_seq ?_
        refine w_reg rfl ?_
        refine v_move rfl ?_
        refine v_len_sl lay41 rfl ?_
        refine v_gtr lay3 rfl rfl (fun h5 => ?_) (fun h5 => ?_)
        · skip
          refine v_nil ?_
          refine q_n ?_
          refine w_t rfl ?_
          refine w_seq ?_
          refine w_reg rfl ?_
          refine v_assign (c := .v (.int .i64 2)) rfl ?_
          refine v_nil ?_
          refine q_n ?_
          refine w_ret (q_r ?_)
          refine r_r rfl ?_
          obtain rfl : i = ds.length := by omega
          rw [List.take_length] at hp
          exact a_i (gv_2 h1 hp (by omega)).symm
        · skip
          refine v_nil ?_
          refine q_n ?_
          refine w_f rfl ?_
          refine w_skip ?_
          refine q_n ?_
          refine w_seq ?_
          refine w_reg rfl ?_
          refine v_assign (c := .v (.int .i64 0)) rfl ?_
          refine v_nil ?_
          refine q_n ?_
          refine w_ret ?_
          refine r_r rfl ?_
          obtain rfl : i = ds.length := by omega
          rw [List.take_length] at hp
          exact a_i (gv_0 h1 hp (by omega)).symm
  · skip
    refine v_not true rfl rfl ?_
    refine v_nil ?_
    refine q_n ?_
    refine w_t rfl ?_
    refine w_seq ?_
    refine w_reg rfl ?_
    refine v_assign (c := .v (.int .i64 1)) rfl ?_
    refine v_nil ?_
    refine q_n ?_
    refine w_ret (q_r ?_)
    refine r_r rfl ?_
    exact a_i (gv_1 (.inl h1)).symm
end Go.VL
namespace Go.VL
open Go.RowKit
set_option maxHeartbeats 4000000
set_option maxRecDepth 20000
theorem step_append_eq {P : Program} {ops : Array Oper} {o : Oper} {a : Act} {w : World} {K : Act → World → Prop} {Q : Exit → Act → World → Prop} {E : Prop}
    (hg : o.guard = none) (d x : Operand) (dT sT : TypeId) (hop : o.op = Op.call { callee := Callee.builtin Builtin.append, args := #[d, x], argTypes := #[dT, sT] })
    (v u : Value) (hd : a.eval d = v) (hx : a.eval x = u) {v' : Value} {w' : World} (hr : (Builtin.append_ #[dT, sT] o.type #[v, u]).run P w = .ok v' w') (hK : K (a.put o.dst v') w') :
    if Region.wanted o (yielded ops a.tmps) = true then Oper.wp P o a w K Q else E := by
  have hw : Region.wanted o (yielded ops a.tmps) = true := by simp [Region.wanted, hg]
  rw [if_pos hw]
  unfold Oper.wp
  simp [execOp, hop, resolve, invoke, builtin, hd, hx, hr, Result.andThen]
  exact hK
/-- An append of cells of one's own, where there is room. -/
theorem run_append_rows {P : Program} (w : World) (t ty e : TypeId) (i : TypeInfo) (k : Nat) (b o n0 cap : Nat) (a : Addr) (n sCap : Nat) (arr : Array Value) (tt : TypeId) (us : List Value) (ht : P.underlying t = some (.slice e)) (hi : P.info? e = some i) (hk : i.size = k) (hroom : n0 + n ≤ cap)
    (hl : us.length = n * k) (hrow : Row w b arr tt) (hfit : o + n0 * k + us.length ≤ arr.size) (hsrc : ∀ (j : Nat) (v : Value), us[j]? = some v → w.cell? (a.add j) = some v) (h1 : ∀ v ∈ us, v.oneCell' = true) :
    (Builtin.append_ #[t, t] ty #[.slice (some ⟨b, o, none⟩) n0 cap, .slice (some a) n sCap]).run P w = .ok (.slice (some ⟨b, o, none⟩) (n0 + n) cap) (w.setRow b (arr.toList.take (o + n0 * k) ++ us ++ arr.toList.drop (o + n0 * k + us.length)).toArray) := by
  have hst := run_storeCells_row P b (o + n0 * k) tt us 0 arr w hrow (by omega) h1
  simp only [Nat.add_zero] at hst
  have hfc := run_firstCells_some (P := P) w i.size n a n sCap us (by rw [hl, hk]) hsrc
  rw [hk] at hfc
  simp [Builtin.append_, run_underlying ht, sizeOf, typeInfo, hi, Builtin.lenOf, hroom, hfc, addr_add, hk, hst]
theorem run_clear_rows {P : Program} (w : World) (t e ty : TypeId) (i : TypeInfo) (z : Value) (b o n c : Nat) (arr : Array Value) (tt : TypeId) (ht : P.underlying t = some (.slice e)) (hi : P.info? e = some i) (hz : i.zero = some z) (hn : 0 < n) (hrow : Row w b arr tt) (hfit : o + n * z.cells.size ≤ arr.size)
    (h1 : ∀ v ∈ z.cells.toList, v.oneCell' = true) : ∃ A : Array Value, A.size = arr.size ∧ A.toList.take o = arr.toList.take o ∧ (Builtin.clear_ #[t] ty #[.slice (some ⟨b, o, none⟩) n c]).run P w = .ok (.tuple #[]) (w.setRow b A) := by
  have hzs := size_zeroCells z.cells n
  have hone : ∀ v ∈ (Builtin.zeroCells z.cells n).toList, v.oneCell' = true := fun v hv => by
    simp only [Builtin.zeroCells, Array.toList_map, List.mem_map] at hv
    obtain ⟨j, hj, rfl⟩ := hv
    have hj' : j < n * z.cells.size := by simpa using hj
    have hpos : 0 < z.cells.size := by
      rcases Nat.eq_zero_or_pos z.cells.size with h0 | h0
      · rw [h0] at hj'; omega
      · exact h0
    have hlt : j % z.cells.size < z.cells.size := Nat.mod_lt _ hpos
    have he : z.cells[j % z.cells.size]! = z.cells[j % z.cells.size] := by simp [hlt]
    rw [he]
    exact h1 _ (by simp)
  have hst := run_storeCells_row P b o tt (Builtin.zeroCells z.cells n).toList 0 arr w hrow (by simp [hzs]; omega) hone
  simp only [Nat.add_zero] at hst
  refine ⟨(arr.toList.take o ++ (Builtin.zeroCells z.cells n).toList ++ arr.toList.drop (o + (Builtin.zeroCells z.cells n).toList.length)).toArray, ?_, ?_, ?_⟩
  · simp [hzs]; omega
  · show ((arr.toList.take o ++ (Builtin.zeroCells z.cells n).toList) ++ _).take o = _
    rw [List.append_assoc, List.take_append_of_le_length (by simp; omega), List.take_take, Nat.min_self]
  · obtain ⟨m, rfl⟩ : ∃ m, n = m + 1 := ⟨n - 1, by omega⟩
    simp [Builtin.clear_, run_underlying ht, zeroValue, typeInfo, hi, hz, hst]
end Go.VL
namespace Go.Proofs.Ytbejolinihbokaa
open Go.RowKit Go.Lib Go.VL
set_option maxHeartbeats 4000000 in
set_option maxRecDepth 100000 in
theorem del_walk (w W1 W2 : World) (b off n c i : Nat) (hi : i < n) (hnc : n ≤ c) (hc63 : c ≤ 9223372036854775807) (hci : ¬ c = i + 1)
    (hap : ∀ ty, (Builtin.append_ #[62, 62] ty #[.slice (some ⟨b, off, none⟩) i c, .slice (some ⟨b, off + (i + 1) * 4, none⟩) (n - (i + 1)) (c - (i + 1))]).run Try.prog w.drew = .ok (.slice (some ⟨b, off, none⟩) (n - 1) c) W1)
    (hcl : ∀ ty, (Builtin.clear_ #[62] ty #[.slice (some ⟨b, off + (n - 1) * 4, none⟩) 1 (c - (n - 1))]).run Try.prog W1 = .ok (.tuple #[]) W2) :
    Calls Try.prog 101 #[.slice (some ⟨b, off, none⟩) n c, .int .i64 i, .int .i64 ((i : Int) + 1)] w fun e w' => e = .returned (.slice (some ⟨b, off, none⟩) (n - 1) c) ∧ w' = W2 := by
  have mixed : Try.prog.follows Departure.mixedOrders = true := by kernel_rfl
  have hz : ¬ ((i : Int) = (i : Int) + 1) := by omega
  have hb1 : (0 : Int) ≤ (i : Int) + 1 := by omega
  have hin : i ≤ n := by omega
  have hin2 : (i : Int) + 1 ≤ (n : Int) := by omega
  have hin3 : (i : Int) ≤ (n : Int) := by omega
  have hin4 : (i : Int) ≤ (i : Int) + 1 := by omega
  have hnc2 : (n : Int) ≤ (c : Int) := by omega
  have htn : ((i : Int) + 1).toNat = i + 1 := by omega
  have hic : i ≤ c := by omega
  have hic2 : i + 1 ≤ c := by omega
  have hn1c : n - 1 ≤ c := by omega
  have hn1n : n - 1 ≤ n := by omega
  have hci0 : ¬ c = i := by omega
  have hcn : ¬ c = n - 1 := by omega
  have hn1 : n - (n - 1) = 1 := by omega
  have hn2 : ((n - 1 : Nat) : Int) ≤ (n : Int) := by omega
  go_enter Try.func101, Try.ntmps101
  go_wp2
  go_region_law_o (refine step_append_eq rfl _ _ 62 62 rfl _ _ (by simp [Act.eval, Act.put]) (by simp [Act.eval, Act.put]) (hap _) ?_)
  go_wp2_with (simp only [hcl])
  go_ret
  exact ⟨rfl, rfl⟩
set_option maxHeartbeats 4000000 in
set_option maxRecDepth 100000 in
theorem del_walk_end (w W1 W2 : World) (b off i : Nat) (hc63 : i + 1 ≤ 9223372036854775807)
    (hap : ∀ ty, (Builtin.append_ #[62, 62] ty #[.slice (some ⟨b, off, none⟩) i (i + 1), .slice (some ⟨b, off, none⟩) 0 0]).run Try.prog w.drew = .ok (.slice (some ⟨b, off, none⟩) i (i + 1)) W1)
    (hcl : ∀ ty, (Builtin.clear_ #[62] ty #[.slice (some ⟨b, off + i * 4, none⟩) 1 1]).run Try.prog W1 = .ok (.tuple #[]) W2) :
    Calls Try.prog 101 #[.slice (some ⟨b, off, none⟩) (i + 1) (i + 1), .int .i64 i, .int .i64 ((i : Int) + 1)] w fun e w' => e = .returned (.slice (some ⟨b, off, none⟩) i (i + 1)) ∧ w' = W2 := by
  have mixed : Try.prog.follows Departure.mixedOrders = true := by kernel_rfl
  have hz : ¬ ((i : Int) = (i : Int) + 1) := by omega
  have hb1 : (0 : Int) ≤ (i : Int) + 1 := by omega
  have htn : ((i : Int) + 1).toNat = i + 1 := by omega
  have hni : ¬ (i + 1 = i) := by omega
  have hle : i ≤ i + 1 := by omega
  have hle2 : (i : Int) ≤ (i : Int) + 1 := by omega
  have hsb : i + 1 - i = 1 := by omega
  go_enter Try.func101, Try.ntmps101
  go_wp2
  go_region_law_o (refine step_append_eq rfl _ _ 62 62 rfl _ _ (by simp [Act.eval, Act.put]) (by simp [Act.eval, Act.put]) (hap _) ?_)
  go_wp2_with (simp only [hcl])
  go_ret
  exact ⟨rfl, rfl⟩
end Go.Proofs.Ytbejolinihbokaa
namespace Go.VL
open Go.RowKit
set_option maxHeartbeats 4000000
set_option maxRecDepth 20000
theorem flat_take {α : Type} {enc : α → List C} {k : Nat} (he : ∀ a, (enc a).length = k) : ∀ (ys : List α) (i : Nat), (flat enc ys).take (i * k) = flat enc (ys.take i)
  | [], i => by simp [flat]
  | y :: ys, 0 => by simp [flat]
  | y :: ys, i + 1 => by
    rw [flat_cons, List.take_succ_cons, flat_cons, ← flat_take he ys i, Nat.add_mul, Nat.one_mul, List.take_append, he, show i * k + k - k = i * k by omega, List.take_of_length_le (by rw [he]; omega)]
theorem flat_drop {α : Type} {enc : α → List C} {k : Nat} (he : ∀ a, (enc a).length = k) : ∀ (ys : List α) (i : Nat), (flat enc ys).drop (i * k) = flat enc (ys.drop i)
  | [], i => by simp [flat]
  | y :: ys, 0 => by simp
  | y :: ys, i + 1 => by
    rw [flat_cons, List.drop_succ_cons, ← flat_drop he ys i, Nat.add_mul, Nat.one_mul, List.drop_append, he, show i * k + k - k = i * k by omega, List.drop_of_length_le (by rw [he]; omega), List.nil_append]
/-- Cells, and the values that they are. -/
def RL (m : Mem) (cs : List C) (us : List Value) : Prop := us.length = cs.length ∧ ∀ (j : Nat) (c : C), cs[j]? = some c → ∃ u, us[j]? = some u ∧ R m c u
theorem RL.take {m : Mem} {cs : List C} {us : List Value} (h : RL m cs us) (i : Nat) : RL m (cs.take i) (us.take i) :=
  ⟨by simp [h.1], fun j c hj => by
    rw [List.getElem?_take] at hj ⊢
    split at hj
    · rename_i hlt
      rw [if_pos hlt]; exact h.2 j c hj
    · cases hj⟩
theorem RL.drop {m : Mem} {cs : List C} {us : List Value} (h : RL m cs us) (i : Nat) : RL m (cs.drop i) (us.drop i) :=
  ⟨by simp [h.1], fun j c hj => by
    rw [List.getElem?_drop] at hj ⊢
    exact h.2 _ c hj⟩
theorem RL.append {m : Mem} {cs cs' : List C} {us us' : List Value} (h : RL m cs us) (h' : RL m cs' us') : RL m (cs ++ cs') (us ++ us') :=
  ⟨by simp [h.1, h'.1], fun j c hj => by
    by_cases hlt : j < cs.length
    · rw [List.getElem?_append_left hlt] at hj
      rw [List.getElem?_append_left (by rw [h.1]; exact hlt)]
      exact h.2 j c hj
    · rw [List.getElem?_append_right (by omega)] at hj
      rw [List.getElem?_append_right (by rw [h.1]; omega), h.1]
      exact h'.2 _ c hj⟩
theorem RL.one {m : Mem} {cs : List C} {us : List Value} (h : RL m cs us) : ∀ v ∈ us, v.oneCell' = true := fun v hv => by
  obtain ⟨j, hj⟩ := List.getElem?_of_mem hv
  have hlt : j < cs.length := by rw [← h.1]; exact (List.getElem?_eq_some_iff.1 hj).1
  obtain ⟨u, h1, h2⟩ := h.2 j _ (List.getElem?_eq_getElem hlt)
  rw [hj] at h1
  obtain rfl := Option.some.inj h1
  exact oneCell_of_plain h2.plain
theorem RL.of_row {m : Mem} {cs : List C} {arr : Array Value} {b : Nat} (hl : b + cs.length ≤ arr.size) (h : ∀ (j : Nat) (c : C), cs[j]? = some c → ∃ u, arr[b + j]? = some u ∧ R m c u) : RL m cs ((arr.toList.drop b).take cs.length) :=
  ⟨by simp; omega, fun j c hj => by
    obtain ⟨u, h1, h2⟩ := h j c hj
    refine ⟨u, ?_, h2⟩
    rw [List.getElem?_take_of_lt (List.getElem?_eq_some_iff.1 hj).1, List.getElem?_drop]
    simpa using h1⟩
theorem Calls.good {X : Cx} {g : FuncId} {arr : Array Value} {H' : List Ob} {m m' : Mem} {Q : V → List Ob → Prop} {r : V} {u : Value} (hen : Enters X g) (hQ : Q r H') (h1 : Sim X.G m' H') (h2 : Ext m m') (h3 : RV m' r u) (hc : Calls X.P g arr m.w fun e w' => e = .returned u ∧ w' = m'.w) :
    Goes X g arr m.w fun u w' => ∃ (m' : Mem) (r : V) (H' : List Ob), m'.w = w' ∧ Q r H' ∧ Sim X.G m' H' ∧ Ext m m' ∧ RV m' r u :=
  .inr ⟨hen _ _, hc.mono fun _e _w' ⟨he, hw⟩ => ⟨u, he, m', r, H', hw.symm, hQ, h1, h2, h3⟩⟩
theorem three {m : Mem} {a b c : V} {arr : Array Value} (h : RVs m [a, b, c] arr) : ∃ x y z, arr = #[x, y, z] ∧ RV m a x ∧ RV m b y ∧ RV m c z := by
  obtain ⟨x, a1, a2⟩ := h.2 0 _ rfl
  obtain ⟨y, b1, b2⟩ := h.2 1 _ rfl
  obtain ⟨z, c1, c2⟩ := h.2 2 _ rfl
  refine ⟨x, y, z, ?_, a2, b2, c2⟩
  refine Array.ext (by simpa using h.1) fun j h1 h2 => ?_
  have hj : j < 3 := by simpa using h2
  rcases (by omega : j = 0 ∨ j = 1 ∨ j = 2) with rfl | rfl | rfl
  · have := (Array.getElem?_eq_some_iff.1 a1).2; simpa using this
  · have := (Array.getElem?_eq_some_iff.1 b1).2; simpa using this
  · have := (Array.getElem?_eq_some_iff.1 c1).2; simpa using this
abbrev No := Bool × Int × Int × Int
def nce (n : No) : List C := [.v (.bool n.1), .v (.int .i64 n.2.1), .v (.int .i64 n.2.2.1), .v (.int .i64 n.2.2.2)]
theorem nce_len (n : No) : (nce n).length = 4 := rfl
theorem nce_sc (n : No) : (nce n).all sc = true := rfl
open Go.Proofs.Ytbejolinihbokaa in
/-- A notice, taken out of a live list. -/
theorem c101 {H : List Ob} {id n i : Nat} {ys : List No} (ho : H[id]? = some ⟨flat nce ys, 101, true⟩) (hn : n = ys.length) (hi : i < n) {Q : V → List Ob → Prop}
    (hQ : Q (.c (.mu H.length 0 (n - 1) 4)) (H.set id ⟨flat nce ys, 101, false⟩ ++ [⟨flat nce (ys.take i ++ ys.drop (i + 1)), 101, true⟩])) : CallC X 101 [.c (.mu id 0 n 4), .c (.v (.int .i64 i)), .c (.v (.int .i64 ((i : Int) + 1)))] H Q := by
  intro m arr0 hS hr
  obtain ⟨u0, u1, u2, rfl, r0, r1, r2⟩ := three hr
  have e1 := r1.val
  have e2 := r2.val
  subst e1 e2
  have hen : Enters X 101 := fun _ _ => Go.Proofs.Try.call101 _ _
  have hyl : (flat nce ys).length = n * 4 := by rw [flat_length nce_len, hn]
  obtain ⟨cap, hu0, hid, hcap, hfit, hcm, hgh⟩ := r0.muI.resolve_left (fun h => by have := h.2.1; omega)
  simp only [Nat.add_zero] at hu0 hfit
  obtain ⟨arr, o1, o2, o3, o4, o5, o6⟩ := hS.ob id _ ho rfl hgh
  simp only at o3 o4
  have hcs := RL.of_row o3 o4
  rw [hyl] at hcs
  generalize hcsd : (arr.toList.drop (m.μ id).base).take (n * 4) = cs at hcs
  have hcl : cs.length = n * 4 := by rw [hcs.1, hyl]
  have hcg : ∀ (j : Nat) (v : Value), cs[j]? = some v → arr[(m.μ id).base + j]? = some v := fun j v hj => by
    rw [← hcsd] at hj
    have hjl := (List.getElem?_eq_some_iff.1 hj).1
    rw [List.getElem?_take_of_lt (by simp at hjl; omega), List.getElem?_drop] at hj
    simpa using hj
  have hpart : flat nce (ys.take i ++ ys.drop (i + 1)) = (flat nce ys).take (i * 4) ++ (flat nce ys).drop ((i + 1) * 4) := by
    rw [flat_append, flat_take nce_len, flat_drop nce_len]
  have hrel : RL m (flat nce (ys.take i ++ ys.drop (i + 1))) (cs.take (i * 4) ++ cs.drop ((i + 1) * 4)) := by
    rw [hpart]
    exact (hcs.take _).append (hcs.drop _)
  have hnl : (flat nce (ys.take i ++ ys.drop (i + 1))).length = (n - 1) * 4 := by rw [flat_length nce_len]; simp; omega
  subst hu0
  obtain ⟨-, hp, i0, z, g1, g2, g3, g4, g5, g6⟩ := X.ok 101 _ lay101
  simp only at g2 g3 g6 hp g5
  have h62 : X.P.underlying 62 = some (.slice 101) := Go.Proofs.Try.underlying62
  have hul : (cs.drop ((i + 1) * 4)).length = (n - (i + 1)) * 4 := by simp; omega
  have h4 : (n - 1) * 4 + 4 = n * 4 := by omega
  have hfit4 : n * 4 ≤ cap * 4 := Nat.mul_le_mul_right 4 hcap
  have happ : ∀ ty a sc, (∀ (j : Nat) (v : Value), (cs.drop ((i + 1) * 4))[j]? = some v → m.w.drew.cell? (a.add j) = some v) → (Builtin.append_ #[62, 62] ty #[.slice (some ⟨(m.μ id).block, (m.μ id).base, none⟩) i cap, .slice (some a) (n - (i + 1)) sc]).run X.P m.w.drew =
      .ok (.slice (some ⟨(m.μ id).block, (m.μ id).base, none⟩) (n - 1) cap) (m.w.drew.setRow (m.μ id).block (arr.toList.take ((m.μ id).base + i * 4) ++ cs.drop ((i + 1) * 4) ++ arr.toList.drop ((m.μ id).base + i * 4 + (cs.drop ((i + 1) * 4)).length)).toArray) := fun ty a sc hs => by
    have h := run_append_rows (P := X.P) m.w.drew 62 ty 101 i0 4 (m.μ id).block (m.μ id).base i cap a (n - (i + 1)) sc arr 101 (cs.drop ((i + 1) * 4)) h62 g1 g2 (by omega) hul o1 (by rw [hul]; omega) hs (fun v hv => hcs.one v (List.mem_of_mem_drop hv))
    rw [show i + (n - (i + 1)) = n - 1 by omega] at h
    exact h
  generalize hA1 : (arr.toList.take ((m.μ id).base + i * 4) ++ cs.drop ((i + 1) * 4) ++ arr.toList.drop ((m.μ id).base + i * 4 + (cs.drop ((i + 1) * 4)).length)).toArray = A1 at happ
  have hA1s : A1.size = arr.size := by rw [← hA1]; simp [hcl]; omega
  have hrow1 : Row (m.w.drew.setRow (m.μ id).block A1) (m.μ id).block A1 101 := Row.set (w := m.w.drew) o1 hA1s
  obtain ⟨A2, hA2s, hA2t, hclr⟩ := run_clear_rows (P := X.P) (m.w.drew.setRow (m.μ id).block A1) 62 101 0 i0 z (m.μ id).block ((m.μ id).base + (n - 1) * 4) 1 (cap - (n - 1)) A1 101 h62 g1 g4 (by omega) hrow1 (by rw [g6, hA1s]; omega) (fun v hv => by
    rw [g5] at hv
    exact oneCell_of_plain (List.all_eq_true.1 hp v hv))
  rw [setRow_setRow] at hclr
  have hseg : (A2.toList.drop (m.μ id).base).take ((n - 1) * 4) = cs.take (i * 4) ++ cs.drop ((i + 1) * 4) := by
    have ht : (A2.toList.drop (m.μ id).base).take ((n - 1) * 4) = (A2.toList.take ((m.μ id).base + (n - 1) * 4)).drop (m.μ id).base := by
      rw [List.drop_take]; congr 1; omega
    rw [ht, hA2t, ← hA1]
    have e0 : (arr.toList.take ((m.μ id).base + i * 4)).length = (m.μ id).base + i * 4 := by simp; omega
    show ((arr.toList.take ((m.μ id).base + i * 4) ++ cs.drop ((i + 1) * 4) ++ _).take ((m.μ id).base + (n - 1) * 4)).drop (m.μ id).base = _
    rw [List.take_append_of_le_length (by rw [List.length_append, e0, hul]; omega), List.take_of_length_le (by rw [List.length_append, e0, hul]; omega), List.drop_append_of_le_length (by omega)]
    congr 1
    rw [← hcsd, List.take_take, Nat.min_eq_left (by omega), List.drop_take]
    congr 1; omega
  obtain ⟨s1, s2⟩ := hS.put (arr' := A2) (w' := m.w.drew.setRow (m.μ id).block A2) (cs' := flat nce (ys.take i ++ ys.drop (i + 1))) ho rfl hgh (Row.set (w := m.w.drew) o1 (hA2s.trans hA1s)) (by omega)
    (fun b hb => setRow_other m.w.drew _ b A2 hb) (setRow_size m.w.drew _ A2) rfl rfl rfl (by rw [hnl]; omega) (fun j c hj => by
      have hjl := (List.getElem?_eq_some_iff.1 hj).1
      obtain ⟨u, h1, h2⟩ := hrel.2 j c hj
      refine ⟨u, ?_, h2⟩
      rw [← hseg, List.getElem?_take_of_lt (by omega), List.getElem?_drop] at h1
      simpa using h1)
  have hidlt : id < H.length := (List.getElem?_eq_some_iff.1 ho).1
  obtain ⟨m1, m2⟩ := s1.move (id := id) (off := 0) (ob := ⟨flat nce (ys.take i ++ ys.drop (i + 1)), 101, true⟩) (by rw [List.getElem?_set_self hidlt]) rfl hgh (Nat.zero_le _)
  simp only [List.drop_zero, List.set_set] at m1
  have m1' : Sim X.G { m with w := m.w.drew.setRow (m.μ id).block A2, N := m.N + 1, μ := μadd m.μ m.N ⟨(m.μ id).block, (m.μ id).base + 0, (m.μ id).size, false⟩ } (H.set id ⟨flat nce ys, 101, false⟩ ++ [⟨flat nce (ys.take i ++ ys.drop (i + 1)), 101, true⟩]) := by
    refine m1.same_live (by simp) fun j o' hj hl' => ?_
    by_cases hlt : j < H.length
    · rw [List.getElem?_append_left (by simpa using hlt)] at hj ⊢
      by_cases hii : j = id
      · subst hii
        rw [List.getElem?_set_self hlt] at hj
        have := (Option.some.inj hj).symm
        subst this
        simp at hl'
      · rw [List.getElem?_set_ne (fun e => hii e.symm)] at hj ⊢
        exact hj
    · rw [List.getElem?_append_right (by simp; omega)] at hj ⊢
      simpa using hj
  have hR : RV { m with w := m.w.drew.setRow (m.μ id).block A2, N := m.N + 1, μ := μadd m.μ m.N ⟨(m.μ id).block, (m.μ id).base + 0, (m.μ id).size, false⟩ } (.c (.mu H.length 0 (n - 1) 4)) (.slice (some ⟨(m.μ id).block, (m.μ id).base, none⟩) (n - 1) cap) := by
    refine .c ?_
    have := R.mu (m := { m with w := m.w.drew.setRow (m.μ id).block A2, N := m.N + 1, μ := μadd m.μ m.N ⟨(m.μ id).block, (m.μ id).base + 0, (m.μ id).size, false⟩ }) (id := m.N) (off := 0) (n := n - 1) (k := 4) (cap := cap) (Nat.lt_succ_self _) (by simp [μadd_new]) (by omega) (by simp [μadd_new]; omega) hcm
    rw [← hS.N]
    simpa [μadd_new] using this
  have hsrc : ∀ (off : Nat), (m.μ id).base + (i + 1) * 4 = off → ∀ (j : Nat) (v : Value), (cs.drop ((i + 1) * 4))[j]? = some v → m.w.drew.cell? ((⟨(m.μ id).block, off, none⟩ : Addr).add j) = some v := fun off ho j v hj => by
    rw [addr_add, ← ho]
    rw [List.getElem?_drop] at hj
    have := Row.cell (w := m.w.drew) o1 (hcg _ v hj)
    rw [Nat.add_assoc]
    exact this
  by_cases hci : cap = i + 1
  · have hni : n = i + 1 := by omega
    have hnil : cs.drop ((i + 1) * 4) = [] := List.eq_nil_of_length_eq_zero (by rw [hul]; omega)
    subst hci
    have e1 : n - 1 = i := by omega
    have e2 : n - (i + 1) = 0 := by omega
    have e3 : i + 1 - i = 1 := by omega
    rw [e1, e2] at happ
    rw [e1, e3] at hclr
    rw [e1] at hR
    have hw := del_walk_end m.w _ _ (m.μ id).block (m.μ id).base i (by unfold maxLen at hcm; omega) (fun ty => happ ty _ 0 (by rw [hnil]; intro j v hj; simp at hj)) (fun ty => hclr)
    rw [← hni] at hw
    rw [← hni] at hR
    rw [← e1] at hR
    rw [← hni]
    exact Calls.good hen hQ m1' (s2.trans m2) hR (by rw [e1]; exact hw)
  · exact Calls.good hen hQ m1' (s2.trans m2) hR (del_walk m.w _ _ (m.μ id).block (m.μ id).base n cap i hi hcap (by unfold maxLen at hcm; omega) hci (fun ty => happ ty _ _ (hsrc _ rfl)) (fun ty => hclr))
end Go.VL
namespace Go.VL
open Go.RowKit
set_option maxRecDepth 20000
set_option maxHeartbeats 8000000
abbrev Po := Int × Int
def pe (p : Po) : List C := [.v (.int .i64 p.1), .v (.int .i64 p.2)]
theorem pe_len (p : Po) : (pe p).length = 2 := rfl
theorem pe_sc (p : Po) : (pe p).all sc = true := rfl
structure Bd where
  nw : List Po
  ps : List Po
  sv : List Po
  kn : List Int
  wr : List No
theorem tr_mun {H : List Ob} {g : List (Option Nat)} {i id off n n' k : Nat} (h : g[i]? = some (some id)) (hn : n = n') : TrV H g (.c (.mu id off n k)) (.c (.mu i off n' k)) := by
  subst hn
  exact tr_mu h
def mx (a b : Int) : Int := if a < b then b else a
/-- A notice comes in. -/
def comeB (b : Bd) (n : No) : Bd :=
  if n.1 then { b with kn := b.kn.set n.2.1.toNat (mx (b.kn.getD n.2.1.toNat 0) n.2.2.2) }
  else if n.2.2.2 > (b.ps.getD n.2.1.toNat (0, 0)).2 then { b with ps := b.ps.set n.2.1.toNat (n.2.2.1, n.2.2.2), wr := b.wr ++ [(true, n.2.1, n.2.2.1, n.2.2.2)] }
  else { b with wr := b.wr ++ [(true, n.2.1, (b.ps.getD n.2.1.toNat (0, 0)).1, (b.ps.getD n.2.1.toNat (0, 0)).2)] }
def cutW (b : Bd) (a : Nat) : Bd := { b with wr := b.wr.take a ++ b.wr.drop (a + 1) }
/-- A deed is done, with a code. -/
def doB (p : Int) (b : Bd) (d : De) : Bd × Int :=
  if 3 ≤ d.1 ∧ d.1 ≤ 5 then
    if b.wr.length ≤ d.2.1.toNat then (b, 2)
    else if d.1 = 4 then if (b.wr.getD d.2.1.toNat (false, 0, 0, 0)).1 = false ∧ 10 ≤ b.wr.length then (b, 3) else (comeB b (b.wr.getD d.2.1.toNat (false, 0, 0, 0)), 0)
    else if d.1 = 3 then (comeB (cutW b d.2.1.toNat) (b.wr.getD d.2.1.toNat (false, 0, 0, 0)), 0)
    else (cutW b d.2.1.toNat, 0)
  else if b.ps.length ≤ d.2.1.toNat ∨ d.1 = 1 ∧ p ≤ d.2.2 then (b, 2)
  else if d.1 = 1 then ({ b with nw := b.nw.set d.2.1.toNat (d.2.2, (b.nw.getD d.2.1.toNat (0, 0)).2 + 1) }, 0)
  else if d.1 = 2 then if 10 ≤ b.wr.length then (b, 3) else ({ b with wr := b.wr ++ [(false, d.2.1, (b.nw.getD d.2.1.toNat (0, 0)).1, (b.nw.getD d.2.1.toNat (0, 0)).2)] }, 0)
  else if d.1 = 6 then ({ b with sv := b.sv.set d.2.1.toNat (b.ps.getD d.2.1.toNat (0, 0)) }, 0)
  else ({ b with ps := b.ps.set d.2.1.toNat (b.sv.getD d.2.1.toNat (0, 0)) }, 0)
theorem gD {α : Type} {xs : List α} {i : Nat} {x : α} (h : i < xs.length) : xs.getD i x = xs[i] := by simp [h]
section
variable {p : Int} {b : Bd} {d : De} {a : Nat}
theorem do_wbad (hk : 3 ≤ d.1 ∧ d.1 ≤ 5) (ha : d.2.1 = a) (h : b.wr.length ≤ a) : doB p b d = (b, 2) := by
  unfold doB
  rw [if_pos hk, ha, Int.toNat_natCast, if_pos h]
theorem do_cfull (hk : d.1 = 4) (ha : d.2.1 = a) (h : a < b.wr.length) (hb : b.wr[a].1 = false) (hf : 10 ≤ b.wr.length) : doB p b d = (b, 3) := by
  unfold doB
  rw [if_pos (by omega), ha, Int.toNat_natCast, if_neg (by omega), if_pos hk, gD h, if_pos ⟨hb, hf⟩]
theorem do_copy (hk : d.1 = 4) (ha : d.2.1 = a) (h : a < b.wr.length) (hc : b.wr[a].1 = true ∨ ¬ 10 ≤ b.wr.length) {b' : Bd} (he : comeB b b.wr[a] = b') : doB p b d = (b', 0) := by
  unfold doB
  rw [if_pos (by omega), ha, Int.toNat_natCast, if_neg (by omega), if_pos hk, gD h, if_neg (by rcases hc with hc | hc <;> simp [hc] <;> omega), he]
theorem do_deliver (hk : d.1 = 3) (ha : d.2.1 = a) (h : a < b.wr.length) {b' : Bd} (he : comeB (cutW b a) b.wr[a] = b') : doB p b d = (b', 0) := by
  unfold doB
  rw [if_pos (by omega), ha, Int.toNat_natCast, if_neg (by omega), if_neg (by omega), if_pos hk, gD h, he]
theorem do_drop (hk : d.1 = 5) (ha : d.2.1 = a) (h : a < b.wr.length) : doB p b d = (cutW b a, 0) := by
  unfold doB
  rw [if_pos (by omega), ha, Int.toNat_natCast, if_neg (by omega), if_neg (by omega), if_neg (by omega)]
theorem come_back {n : No} {pn : Nat} (hb : n.1 = true) (hp : n.2.1 = pn) (h : pn < b.kn.length) : comeB b n = { b with kn := b.kn.set pn (mx b.kn[pn] n.2.2.2) } := by
  unfold comeB
  rw [if_pos hb, hp, Int.toNat_natCast, gD h]
theorem come_new {n : No} {pn : Nat} (hb : n.1 = false) (hp : n.2.1 = pn) (h : pn < b.ps.length) (hv : n.2.2.2 > b.ps[pn].2) : comeB b n = { b with ps := b.ps.set pn (n.2.2.1, n.2.2.2), wr := b.wr ++ [(true, n.2.1, n.2.2.1, n.2.2.2)] } := by
  unfold comeB
  rw [if_neg (by rw [hb]; decide), hp, Int.toNat_natCast, gD h, if_pos hv]
theorem come_old {n : No} {pn : Nat} (hb : n.1 = false) (hp : n.2.1 = pn) (h : pn < b.ps.length) (hv : ¬ n.2.2.2 > b.ps[pn].2) : comeB b n = { b with wr := b.wr ++ [(true, n.2.1, b.ps[pn].1, b.ps[pn].2)] } := by
  unfold comeB
  rw [if_neg (by rw [hb]; decide), hp, Int.toNat_natCast, gD h, if_neg hv]
theorem do_pbad (hk : ¬ (3 ≤ d.1 ∧ d.1 ≤ 5)) (ha : d.2.1 = a) (h : b.ps.length ≤ a) : doB p b d = (b, 2) := by
  unfold doB
  rw [if_neg hk, ha, Int.toNat_natCast, if_pos (.inl h)]
theorem do_obad (hk : d.1 = 1) (h2 : p ≤ d.2.2) : doB p b d = (b, 2) := by
  unfold doB
  rw [if_neg (by omega), if_pos (.inr ⟨hk, h2⟩)]
theorem do_order (hk : d.1 = 1) (ha : d.2.1 = a) (h : a < b.ps.length) (hn : a < b.nw.length) (h2 : ¬ p ≤ d.2.2) : doB p b d = ({ b with nw := b.nw.set a (d.2.2, b.nw[a].2 + 1) }, 0) := by
  unfold doB
  rw [if_neg (by omega), ha, Int.toNat_natCast, if_neg (by omega), if_pos hk, gD hn]
theorem do_sfull (hk : d.1 = 2) (ha : d.2.1 = a) (h : a < b.ps.length) (hf : 10 ≤ b.wr.length) : doB p b d = (b, 3) := by
  unfold doB
  rw [if_neg (by omega), ha, Int.toNat_natCast, if_neg (by omega), if_neg (by omega), if_pos hk, if_pos hf]
theorem do_send (hk : d.1 = 2) (ha : d.2.1 = a) (h : a < b.ps.length) (hn : a < b.nw.length) (hf : ¬ 10 ≤ b.wr.length) : doB p b d = ({ b with wr := b.wr ++ [(false, d.2.1, b.nw[a].1, b.nw[a].2)] }, 0) := by
  unfold doB
  rw [if_neg (by omega), ha, Int.toNat_natCast, if_neg (by omega), if_neg (by omega), if_pos hk, if_neg hf, gD hn]
theorem do_save (hk : d.1 = 6) (ha : d.2.1 = a) (h : a < b.ps.length) : doB p b d = ({ b with sv := b.sv.set a b.ps[a] }, 0) := by
  unfold doB
  rw [if_neg (by omega), ha, Int.toNat_natCast, if_neg (by omega), if_neg (by omega), if_neg (by omega), if_pos hk, gD h]
theorem do_crash (hk : 6 < d.1) (ha : d.2.1 = a) (h : a < b.ps.length) (hs : a < b.sv.length) : doB p b d = ({ b with ps := b.ps.set a b.sv[a] }, 0) := by
  unfold doB
  rw [if_neg (by omega), ha, Int.toNat_natCast, if_neg (by omega), if_neg (by omega), if_neg (by omega), if_neg (by omega), gD hs]
end
/-- A board that is sound behind so many deeds. -/
structure okB (n i : Nat) (b : Bd) : Prop where
  nw : b.nw.length = n
  ps : b.ps.length = n
  sv : b.sv.length = n
  kn : b.kn.length = n
  wr : b.wr.length ≤ 10
  po : ∀ x ∈ b.wr, 0 ≤ x.2.1 ∧ x.2.1 < n
  ve : ∀ x ∈ b.nw, 0 ≤ x.2 ∧ x.2 ≤ i
theorem mem_set {α : Type} {xs : List α} {i : Nat} {x y : α} (h : y ∈ xs.set i x) : y ∈ xs ∨ y = x := by
  rcases List.mem_or_eq_of_mem_set h with h | h
  · exact .inl h
  · exact .inr h
theorem okB.up {n i : Nat} {b : Bd} (h : okB n i b) : okB n (i + 1) b := ⟨h.nw, h.ps, h.sv, h.kn, h.wr, h.po, fun x hx => by have := h.ve x hx; omega⟩
theorem ok_cut {n i : Nat} {b : Bd} {a : Nat} (h : okB n i b) : okB n i (cutW b a) := ⟨h.nw, h.ps, h.sv, h.kn, by
    have := h.wr
    simp only [cutW, List.length_append, List.length_take, List.length_drop]
    omega, fun x hx => by
    rcases List.mem_append.1 hx with hx | hx
    · exact h.po x (List.mem_of_mem_take hx)
    · exact h.po x (List.mem_of_mem_drop hx), h.ve⟩
theorem ok_come {n i : Nat} {b : Bd} {x : No} (h : okB n i b) (hx : 0 ≤ x.2.1 ∧ x.2.1 < n) (hl : x.1 = true ∨ b.wr.length < 10) : okB n i (comeB b x) := by
  unfold comeB
  split
  · exact ⟨h.nw, h.ps, h.sv, by simp [h.kn], h.wr, h.po, h.ve⟩
  · rename_i hb
    have hl' : b.wr.length < 10 := hl.resolve_left hb
    split
    · refine ⟨h.nw, by simp [h.ps], h.sv, h.kn, by simp; omega, fun y hy => ?_, h.ve⟩
      rcases List.mem_append.1 hy with hy | hy
      · exact h.po y hy
      · simp at hy; subst hy; exact hx
    · refine ⟨h.nw, h.ps, h.sv, h.kn, by simp; omega, fun y hy => ?_, h.ve⟩
      rcases List.mem_append.1 hy with hy | hy
      · exact h.po y hy
      · simp at hy; subst hy; exact hx
theorem ok_do {p : Int} {n i : Nat} {b b' : Bd} {d : De} {c : Int} (h : okB n i b) (hd : dOk d) (he : doB p b d = (b', c)) : okB n (i + 1) b' := by
  obtain ⟨a, ha⟩ := Int.eq_ofNat_of_zero_le hd.2.1.1
  have hb : b' = (doB p b d).1 := by rw [he]
  subst hb
  clear he
  unfold doB
  rw [ha, Int.toNat_natCast]
  split
  · split
    · exact h.up
    · rename_i hl
      have hl' : a < b.wr.length := by omega
      have hp := h.po _ (List.getElem_mem hl')
      rw [gD hl']
      split
      · split
        · exact h.up
        · rename_i hc
          exact ok_come h.up hp (by
            cases hw : b.wr[a].1 with
            | true => exact .inl rfl
            | false => exact .inr (by have := h.wr; have : ¬ 10 ≤ b.wr.length := fun h10 => hc ⟨hw, h10⟩; omega))
      · split
        · refine ok_come (ok_cut h.up) hp (.inr ?_)
          have := h.wr
          simp only [cutW, List.length_append, List.length_take, List.length_drop]
          omega
        · exact ok_cut h.up
  · split
    · exact h.up
    · rename_i hl
      have hl' : a < n := by have := h.ps; omega
      have hn : a < b.nw.length := by rw [h.nw]; exact hl'
      split
      · refine ⟨by simp [h.nw], h.ps, h.sv, h.kn, h.wr, h.po, fun x hx => ?_⟩
        rw [gD hn] at hx
        rcases mem_set hx with hx | rfl
        · have := h.ve x hx; omega
        · have := h.ve _ (List.getElem_mem hn)
          simp only
          omega
      · split
        · split
          · exact h.up
          · refine ⟨h.nw, h.ps, h.sv, h.kn, by simp; omega, fun y hy => ?_, fun x hx => by have := h.ve x hx; omega⟩
            rcases List.mem_append.1 hy with hy | hy
            · exact h.po y hy
            · simp only [List.mem_singleton] at hy; subst hy; exact ⟨by simp only; omega, by simp only; omega⟩
        · split
          · exact ⟨h.nw, h.ps, by simp [h.sv], h.kn, h.wr, h.po, fun x hx => by have := h.ve x hx; omega⟩
          · exact ⟨h.nw, by simp [h.ps], h.sv, h.kn, h.wr, h.po, fun x hx => by have := h.ve x hx; omega⟩
/-- A board in the beginning: so many posts. -/
def bg (fs : List Int) (i : Nat) : List Po := (fs.take i).map fun x => (x, 0)
theorem bg_l {fs : List Int} {i : Nat} (hi : i ≤ fs.length) : (bg fs i).length = i := by simp [bg, Nat.min_eq_left hi]
theorem bg_step {fs : List Int} {i : Nat} (hi : i < fs.length) : bg fs i ++ [(fs[i], 0)] = bg fs (i + 1) := by
  unfold bg
  rw [List.take_succ_eq_append_getElem hi, List.map_append]
  rfl
theorem bg_len (fs : List Int) : (bg fs fs.length).length = fs.length := by simp [bg]
def b0 (fs : List Int) : Bd := ⟨bg fs fs.length, bg fs fs.length, bg fs fs.length, List.replicate fs.length 0, []⟩
theorem ok_0 (fs : List Int) : okB fs.length 0 (b0 fs) := ⟨bg_len fs, bg_len fs, bg_len fs, by simp [b0], by simp [b0], fun x hx => by simp [b0] at hx, fun x hx => by
  simp only [b0, bg, List.mem_map] at hx
  obtain ⟨y, -, rfl⟩ := hx
  simp⟩
/-- The board behind so many deeds, and their codes. -/
def stB (p : Int) (fs : List Int) (ds : List De) : Nat → Bd × List Int
  | 0 => (b0 fs, [])
  | i + 1 => ((doB p (stB p fs ds i).1 (ds.getD i (0, 0, 0))).1, (stB p fs ds i).2 ++ [(doB p (stB p fs ds i).1 (ds.getD i (0, 0, 0))).2])
theorem st_step {p : Int} {fs : List Int} {ds : List De} {i : Nat} {b b' : Bd} {cs : List Int} {c : Int} (h : stB p fs ds i = (b, cs)) (hi : i < ds.length) (hd : doB p b ds[i] = (b', c)) : stB p fs ds (i + 1) = (b', cs ++ [c]) := by
  simp only [stB, h, gD hi, hd]
theorem wcut {α : Type} (l : List α) (a : Nat) : ([] ++ (l.drop 0).take (a - 0)) ++ ([] ++ (l.drop (a + 1)).take (l.length - (a + 1))) = l.take a ++ l.drop (a + 1) := by
  simp only [List.nil_append, List.drop_zero, Nat.sub_zero]
  rw [List.take_of_length_le (l := l.drop (a + 1)) (by simp)]
theorem wcut_end {α : Type} {l : List α} {a : Nat} (h : a + 1 = l.length) : ([] ++ (l.drop 0).take (a - 0)) ++ ([] ++ []) = l.take a ++ l.drop (a + 1) := by
  simp only [List.nil_append, List.append_nil, List.drop_zero, Nat.sub_zero]
  rw [List.drop_of_length_le (by omega), List.append_nil]
/-- A board, looked at. -/
def bdv (o : Bool) (b : Bd) : List C := [.any, .sl o b.nw.length 2 (flat pe b.nw), .sl o b.ps.length 2 (flat pe b.ps), .sl o b.sv.length 2 (flat pe b.sv), .sl o b.kn.length 1 (flat int b.kn), .sl o b.wr.length 4 (flat nce b.wr)]
theorem c98 (a b : Int) : PureC X 98 [cI a, cI b] (cI (mx a b)) := by
  refine PureC.of_body (drawD_ok X) (fun _ _ => Go.Proofs.Try.call98 _ _) Go.Proofs.Try.func98 rfl (n := 10) rfl ?_
  refine w_seq ?_
  refine w_reg rfl ?_
  refine v_assign (c := .v (.int .i64 0)) rfl ?_
  refine v_nil ?_
  refine q_n ?_
  refine w_seq ?_
  refine w_seq ?_
  refine w_reg rfl ?_
  refine v_move rfl ?_
  refine v_move rfl ?_
  refine v_gtr lay2 rfl rfl (fun h1 => ?_) (fun h1 => ?_)
  · refine v_nil ?_
    refine q_n ?_
    refine w_t rfl ?_
    refine w_seq ?_
    refine w_reg rfl ?_
    refine v_move rfl ?_
    refine v_assign rfl ?_
    refine v_nil ?_
    refine q_n ?_
    refine w_ret (q_r ?_)
    refine r_r rfl ?_
    exact a_i (by unfold mx; split <;> omega)
  refine v_nil ?_
  refine q_n ?_
  refine w_f rfl ?_
  refine w_skip ?_
  refine q_n ?_
  refine w_seq ?_
  refine w_reg rfl ?_
  refine v_move rfl ?_
  refine v_assign rfl ?_
  refine v_nil ?_
  refine q_n ?_
  refine w_ret ?_
  refine r_r rfl ?_
  exact a_i (by unfold mx; split <;> omega)
end Go.VL
namespace Go.VL
open Go.RowKit
set_option maxRecDepth 20000
set_option maxHeartbeats 8000000
/-- The program's board, looked at. -/
def bdi (p : Int) (fs : List Int) (b : Bd) : List C := [.sl false b.nw.length 2 (flat pe b.nw), .sl false b.ps.length 2 (flat pe b.ps), .sl false b.sv.length 2 (flat pe b.sv), .sl false b.kn.length 1 (flat int b.kn), .sl false b.wr.length 4 (flat nce b.wr), .v (.int .i64 p), ints false fs]
/-- With what code a deed is left out. -/
def cdB (p : Int) (b : Bd) (d : De) : Int :=
  if 3 ≤ d.1 ∧ d.1 ≤ 5 then if b.wr.length ≤ d.2.1.toNat then 2 else if d.1 = 4 ∧ (b.wr.getD d.2.1.toNat (false, 0, 0, 0)).1 = false ∧ 10 ≤ b.wr.length then 3 else 0
  else if b.ps.length ≤ d.2.1.toNat ∨ d.1 = 1 ∧ p ≤ d.2.2 then 2 else if d.1 = 2 ∧ 10 ≤ b.wr.length then 3 else 0
theorem do_cd (p : Int) (b : Bd) (d : De) : (doB p b d).2 = cdB p b d := by
  unfold doB cdB
  grind
theorem c90 (p : Int) (fs : List Int) (b : Bd) (d : De) (a : Nat) (ha : d.2.1 = a) (_hd : dOk d) (hw : b.wr.length ≤ 10) (hp : b.ps.length ≤ 6) : PureC X 90 [.c (.vw false (bdi p fs b) 0), .agg (dce d)] (cI (doB p b d).2) := by
  refine PureC.of_body (drawD_ok X) (fun _ _ => Go.Proofs.Try.call90 _ _) Go.Proofs.Try.func90 rfl (n := 87) rfl ?_
  refine w_seq ?_
  refine w_reg rfl ?_
  refine v_box (m := 0) (H' := [_]) lay25 rfl rfl rfl ?_
  refine v_assign (c := .v (.int .i64 0)) rfl ?_
  refine v_nil ?_
  refine q_n ?_
  refine w_seq ?_
  refine w_draw [0, 1, 0, 4, 12, 28, 60, 124, 255, 0, 512, 0, 2048, 6144, 14336, 30720, 63488, 131071, 0, 262144, 786432, 1835008, 3932160, 8126464, 16515072, 262143, 33816575, 134217727] [⟨0, 0, []⟩, ⟨1, 0, []⟩, ⟨2, 0, []⟩, ⟨3, 0, []⟩, ⟨4, 0, []⟩, ⟨5, 0, []⟩, ⟨6, 0, []⟩, ⟨7, 0, []⟩, ⟨8, 0, []⟩, ⟨9, 0, []⟩, ⟨10, 0, []⟩, ⟨11, 0, []⟩, ⟨12, 0, []⟩, ⟨13, 0, []⟩, ⟨14, 0, []⟩, ⟨15, 0, []⟩, ⟨16, 0, []⟩, ⟨17, 0, []⟩, ⟨18, 0, []⟩, ⟨19, 0, []⟩, ⟨20, 0, []⟩, ⟨21, 0, []⟩, ⟨22, 0, []⟩, ⟨23, 0, []⟩, ⟨24, 0, []⟩, ⟨25, 0, []⟩, ⟨26, 0, []⟩, ⟨27, 0, []⟩] rfl rfl ?_
  refine d_q rfl rfl rfl rfl rfl ?_
  refine v_fa_pt (off' := 1) lay25 rfl rfl rfl ?_
  refine v_nil ?_
  refine d_q rfl rfl rfl rfl rfl ?_
  refine v_load_pt (.c _) lay2 rfl rfl rfl rfl ?_
  refine v_nil ?_
  refine d_q rfl rfl rfl rfl rfl ?_
  refine v_move rfl ?_
  refine v_nil ?_
  refine d_q rfl rfl rfl rfl rfl ?_
  refine v_nil_vw rfl ?_
  refine v_nil ?_
  refine d_q rfl rfl rfl rfl rfl ?_
  refine v_fa_vw (off' := 0) lay94 rfl rfl rfl ?_
  refine v_nil ?_
  refine d_q rfl rfl rfl rfl rfl ?_
  refine v_fa_vw (off' := 1) lay64 rfl rfl rfl ?_
  refine v_nil ?_
  refine d_q rfl rfl rfl rfl rfl ?_
  refine v_load_vw (.c (_)) lay61 rfl rfl rfl ?_
  refine v_nil ?_
  refine d_q rfl rfl rfl rfl rfl ?_
  refine v_len_sl lay61 rfl ?_
  refine v_nil ?_
  refine d_callb (c89 _ _ (by omega)) rfl rfl rfl rfl (.cons vw_v (.cons vw_v .nil)) (fun h1 => ?_) (fun h1 => ?_)
  rotate_left
  · refine d_q rfl rfl rfl rfl rfl ?_
    refine v_fa_pt (off' := 1) lay25 rfl rfl rfl ?_
    refine v_nil ?_
    refine d_q rfl rfl rfl rfl rfl ?_
    refine v_load_pt (.c _) lay2 rfl rfl rfl rfl ?_
    refine v_nil ?_
    refine d_q rfl rfl rfl rfl rfl ?_
    refine v_move rfl ?_
    refine v_nil ?_
    refine d_q rfl rfl rfl rfl rfl ?_
    refine v_nil_vw rfl ?_
    refine v_nil ?_
    refine d_q rfl rfl rfl rfl rfl ?_
    refine v_fa_vw (off' := 0) lay94 rfl rfl rfl ?_
    refine v_nil ?_
    refine d_q rfl rfl rfl rfl rfl ?_
    refine v_fa_vw (off' := 4) lay64 rfl rfl rfl ?_
    refine v_nil ?_
    refine d_q rfl rfl rfl rfl rfl ?_
    refine v_load_vw (.c (_)) lay62 rfl rfl rfl ?_
    refine v_nil ?_
    refine d_q rfl rfl rfl rfl rfl ?_
    refine v_len_sl lay62 rfl ?_
    refine v_nil ?_
    refine d_callb (c89 _ _ (by omega)) rfl rfl rfl rfl (.cons vw_v (.cons vw_v .nil)) (fun h33 => ?_) (fun h33 => ?_)
    rotate_left
    · refine d_q rfl rfl rfl rfl rfl ?_
      refine v_move rfl ?_
      refine v_nil ?_
      refine d_q rfl rfl rfl rfl rfl ?_
      refine v_nil_vw rfl ?_
      refine v_nil ?_
      refine d_q rfl rfl rfl rfl rfl ?_
      refine v_fa_vw (off' := 0) lay94 rfl rfl rfl ?_
      refine v_nil ?_
      refine d_q rfl rfl rfl rfl rfl ?_
      refine v_fa_vw (off' := 4) lay64 rfl rfl rfl ?_
      refine v_nil ?_
      refine d_q rfl rfl rfl rfl rfl ?_
      refine v_load_vw (.c (_)) lay62 rfl rfl rfl ?_
      refine v_nil ?_
      refine d_q rfl rfl rfl rfl rfl ?_
      refine v_len_sl lay62 rfl ?_
      refine v_nil ?_
      refine d_q rfl rfl rfl rfl rfl ?_
      refine v_eql lay3 rfl rfl (fun h49 => ?_) (fun h49 => ?_)
      · refine v_nil ?_
        refine d_q rfl rfl rfl rfl rfl ?_
        refine v_assign rfl ?_
        refine v_nil ?_
        refine d_q rfl rfl rfl rfl rfl ?_
        refine v_assign rfl ?_
        refine v_nil ?_
        refine d_q rfl rfl rfl rfl rfl ?_
        refine v_assign rfl ?_
        refine v_nil ?_
        refine d_nil ?_
        refine q_n ?_
        refine w_seq ?_
        refine w_seq ?_
        refine w_reg rfl ?_
        refine v_fa_pt (off' := 0) lay25 rfl rfl rfl ?_
        refine v_load_pt (.c _) lay2 rfl rfl rfl rfl ?_
        refine v_nil ?_
        refine q_n ?_
        refine w_block ?_
        refine w_seq ?_
        refine w_reg rfl ?_
        refine v_eql lay2 rfl rfl (fun h50 => ?_) (fun h50 => ?_)
        · refine v_assign rfl ?_
          refine v_nil ?_
          refine q_n ?_
          refine w_t rfl ?_
          refine w_seq ?_
          refine w_draw [0, 1, 3, 7, 15, 7, 39, 103, 231, 487, 1023, 2047, 4095, 8191] [⟨0, 0, []⟩, ⟨1, 0, []⟩, ⟨2, 0, []⟩, ⟨3, 0, []⟩, ⟨4, 0, []⟩, ⟨5, 0, []⟩, ⟨6, 0, []⟩, ⟨7, 0, []⟩, ⟨8, 0, []⟩, ⟨9, 0, []⟩, ⟨10, 0, []⟩, ⟨11, 0, []⟩, ⟨12, 0, []⟩, ⟨13, 0, []⟩] rfl rfl ?_
          refine d_q rfl rfl rfl rfl rfl ?_
          refine v_move rfl ?_
          refine v_nil ?_
          refine d_q rfl rfl rfl rfl rfl ?_
          refine v_not true rfl rfl ?_
          refine v_nil ?_
          refine d_q rfl rfl rfl rfl rfl ?_
          refine v_move rfl ?_
          refine v_nil ?_
          refine d_off rfl rfl ?_
          refine d_off rfl rfl ?_
          refine d_off rfl rfl ?_
          refine d_off rfl rfl ?_
          refine d_off rfl rfl ?_
          refine d_off rfl rfl ?_
          refine d_off rfl rfl ?_
          refine d_off rfl rfl ?_
          refine d_q rfl rfl rfl rfl rfl ?_
          refine v_pick_t (v := .v (.bool true)) rfl rfl ?_
          refine v_nil ?_
          refine d_call (c88 _ _) rfl rfl rfl rfl rfl (.cons vw_v (.cons vw_v .nil)) ?_
          refine d_q rfl rfl rfl rfl rfl ?_
          refine v_assign rfl ?_
          refine v_nil ?_
          refine d_nil ?_
          refine q_n ?_
          refine w_ret (q_br (q_r ?_))
          refine r_r rfl ?_
          exact a_i (by rw [do_cd]; unfold cdB; rw [ha, Int.toNat_natCast]; grind [firstNZ])
        refine v_assign rfl ?_
        refine v_nil ?_
        refine q_n ?_
        refine w_f rfl ?_
        refine w_seq ?_
        refine w_reg rfl ?_
        refine v_eql lay2 rfl rfl (fun h51 => ?_) (fun h51 => ?_)
        · refine v_assign rfl ?_
          refine v_nil ?_
          refine q_n ?_
          refine w_t rfl ?_
          refine w_seq ?_
          refine w_reg rfl ?_
          refine v_move rfl ?_
          refine v_not true rfl rfl ?_
          refine v_call (c88 _ _) rfl rfl rfl (.cons vw_v (.cons vw_v .nil)) ?_
          refine v_move rfl ?_
          refine v_call (c88 _ _) rfl rfl rfl (.cons vw_v (.cons vw_v .nil)) ?_
          refine v_lit (flat int [_, _]) (H' := [_, _]) lay28 lay2 rfl rfl ⟨by decide, by decide⟩ rfl rfl ?_
          refine v_call (c87 [_, _] (Nat.le_of_ble_eq_true rfl)) rfl rfl rfl (.cons (vw_mu2 int_sc int_len rfl (by first | (simp; done) | (simp; omega))) .nil) ?_
          refine v_assign rfl ?_
          refine v_nil ?_
          refine q_n ?_
          refine w_ret (q_br (q_r ?_))
          refine r_r rfl ?_
          exact a_i (by rw [do_cd]; unfold cdB; rw [ha, Int.toNat_natCast]; grind [firstNZ])
        refine v_assign rfl ?_
        refine v_nil ?_
        refine q_n ?_
        refine w_f rfl ?_
        refine w_seq ?_
        refine w_seq ?_
        refine w_reg rfl ?_
        refine v_eql lay2 rfl rfl (fun h52 => ?_) (fun h52 => ?_)
        · refine v_assign rfl ?_
          refine v_nil ?_
          refine q_n ?_
          refine w_t rfl ?_
          refine w_skip ?_
          refine q_n ?_
          refine w_t rfl ?_
          refine w_seq ?_
          refine w_reg rfl ?_
          refine v_move rfl ?_
          refine v_not true rfl rfl ?_
          refine v_call (c88 _ _) rfl rfl rfl (.cons vw_v (.cons vw_v .nil)) ?_
          refine v_assign rfl ?_
          refine v_nil ?_
          refine q_n ?_
          refine w_ret (q_br (q_r ?_))
          refine r_r rfl ?_
          exact a_i (by rw [do_cd]; unfold cdB; rw [ha, Int.toNat_natCast]; grind [firstNZ])
        refine v_assign rfl ?_
        refine v_nil ?_
        refine q_n ?_
        refine w_f rfl ?_
        refine w_reg rfl ?_
        refine v_eql lay2 rfl rfl (fun h53 => ?_) (fun h53 => ?_)
        · refine v_assign rfl ?_
          refine v_nil ?_
          refine q_n ?_
          refine w_t rfl ?_
          refine w_seq ?_
          refine w_reg rfl ?_
          refine v_move rfl ?_
          refine v_not true rfl rfl ?_
          refine v_call (c88 _ _) rfl rfl rfl (.cons vw_v (.cons vw_v .nil)) ?_
          refine v_assign rfl ?_
          refine v_nil ?_
          refine q_n ?_
          refine w_ret (q_br (q_r ?_))
          refine r_r rfl ?_
          exact a_i (by rw [do_cd]; unfold cdB; rw [ha, Int.toNat_natCast]; grind [firstNZ])
        refine v_assign rfl ?_
        refine v_nil ?_
        refine q_n ?_
        refine w_f rfl ?_
        refine w_seq ?_
        refine w_reg rfl ?_
        refine v_eql lay2 rfl rfl (fun h54 => ?_) (fun h54 => ?_)
        rotate_left
        · refine v_assign rfl ?_
          refine v_nil ?_
          refine q_n ?_
          refine w_f rfl ?_
          refine w_skip ?_
          refine q_bn ?_
          refine q_n ?_
          refine w_seq ?_
          refine w_reg rfl ?_
          refine v_move rfl ?_
          refine v_not true rfl rfl ?_
          refine v_call (c88 _ _) rfl rfl rfl (.cons vw_v (.cons vw_v .nil)) ?_
          refine v_assign rfl ?_
          refine v_nil ?_
          refine q_n ?_
          refine w_ret ?_
          refine r_r rfl ?_
          exact a_i (by rw [do_cd]; unfold cdB; rw [ha, Int.toNat_natCast]; grind [firstNZ])
        refine v_assign rfl ?_
        refine v_nil ?_
        refine q_n ?_
        refine w_t rfl ?_
        refine w_seq ?_
        refine w_seq ?_
        refine w_reg rfl ?_
        refine v_move rfl ?_
        refine v_not true rfl rfl ?_
        refine v_nil ?_
        refine q_n ?_
        refine w_t rfl ?_
        refine w_seq ?_
        refine w_reg rfl ?_
        refine v_assign (c := .v (.int .i64 2)) rfl ?_
        refine v_nil ?_
        refine q_n ?_
        refine w_ret (q_r (q_br (q_r ?_)))
        refine r_r rfl ?_
        exact a_i (by rw [do_cd]; unfold cdB; rw [ha, Int.toNat_natCast]; grind [firstNZ])
      refine v_nil ?_
      refine d_q rfl rfl rfl rfl rfl ?_
      refine v_assign rfl ?_
      refine v_nil ?_
      refine d_q rfl rfl rfl rfl rfl ?_
      refine v_assign rfl ?_
      refine v_nil ?_
      refine d_q rfl rfl rfl rfl rfl ?_
      refine v_assign rfl ?_
      refine v_nil ?_
      refine d_nil ?_
      refine q_n ?_
      refine w_seq ?_
      refine w_seq ?_
      refine w_reg rfl ?_
      refine v_fa_pt (off' := 0) lay25 rfl rfl rfl ?_
      refine v_load_pt (.c _) lay2 rfl rfl rfl rfl ?_
      refine v_nil ?_
      refine q_n ?_
      refine w_block ?_
      refine w_seq ?_
      refine w_reg rfl ?_
      refine v_eql lay2 rfl rfl (fun h55 => ?_) (fun h55 => ?_)
      · refine v_assign rfl ?_
        refine v_nil ?_
        refine q_n ?_
        refine w_t rfl ?_
        refine w_seq ?_
        refine w_draw [0, 1, 3, 7, 15, 7, 39, 103, 231, 487, 1023, 2047, 4095, 8191] [⟨0, 0, []⟩, ⟨1, 0, []⟩, ⟨2, 0, []⟩, ⟨3, 0, []⟩, ⟨4, 0, []⟩, ⟨5, 0, []⟩, ⟨6, 0, []⟩, ⟨7, 0, []⟩, ⟨8, 0, []⟩, ⟨9, 0, []⟩, ⟨10, 0, []⟩, ⟨11, 0, []⟩, ⟨12, 0, []⟩, ⟨13, 0, []⟩] rfl rfl ?_
        refine d_q rfl rfl rfl rfl rfl ?_
        refine v_move rfl ?_
        refine v_nil ?_
        refine d_q rfl rfl rfl rfl rfl ?_
        refine v_not true rfl rfl ?_
        refine v_nil ?_
        refine d_q rfl rfl rfl rfl rfl ?_
        refine v_move rfl ?_
        refine v_nil ?_
        refine d_off rfl rfl ?_
        refine d_off rfl rfl ?_
        refine d_off rfl rfl ?_
        refine d_off rfl rfl ?_
        refine d_off rfl rfl ?_
        refine d_off rfl rfl ?_
        refine d_off rfl rfl ?_
        refine d_off rfl rfl ?_
        refine d_q rfl rfl rfl rfl rfl ?_
        refine v_pick_t (v := .v (.bool true)) rfl rfl ?_
        refine v_nil ?_
        refine d_call (c88 _ _) rfl rfl rfl rfl rfl (.cons vw_v (.cons vw_v .nil)) ?_
        refine d_q rfl rfl rfl rfl rfl ?_
        refine v_assign rfl ?_
        refine v_nil ?_
        refine d_nil ?_
        refine q_n ?_
        refine w_ret (q_br (q_r ?_))
        refine r_r rfl ?_
        exact a_i (by rw [do_cd]; unfold cdB; rw [ha, Int.toNat_natCast]; grind [firstNZ])
      refine v_assign rfl ?_
      refine v_nil ?_
      refine q_n ?_
      refine w_f rfl ?_
      refine w_seq ?_
      refine w_reg rfl ?_
      refine v_eql lay2 rfl rfl (fun h56 => ?_) (fun h56 => ?_)
      · refine v_assign rfl ?_
        refine v_nil ?_
        refine q_n ?_
        refine w_t rfl ?_
        refine w_seq ?_
        refine w_reg rfl ?_
        refine v_move rfl ?_
        refine v_not true rfl rfl ?_
        refine v_call (c88 _ _) rfl rfl rfl (.cons vw_v (.cons vw_v .nil)) ?_
        refine v_move rfl ?_
        refine v_call (c88 _ _) rfl rfl rfl (.cons vw_v (.cons vw_v .nil)) ?_
        refine v_lit (flat int [_, _]) (H' := [_, _]) lay28 lay2 rfl rfl ⟨by decide, by decide⟩ rfl rfl ?_
        refine v_call (c87 [_, _] (Nat.le_of_ble_eq_true rfl)) rfl rfl rfl (.cons (vw_mu2 int_sc int_len rfl (by first | (simp; done) | (simp; omega))) .nil) ?_
        refine v_assign rfl ?_
        refine v_nil ?_
        refine q_n ?_
        refine w_ret (q_br (q_r ?_))
        refine r_r rfl ?_
        exact a_i (by rw [do_cd]; unfold cdB; rw [ha, Int.toNat_natCast]; grind [firstNZ])
      refine v_assign rfl ?_
      refine v_nil ?_
      refine q_n ?_
      refine w_f rfl ?_
      refine w_seq ?_
      refine w_seq ?_
      refine w_reg rfl ?_
      refine v_eql lay2 rfl rfl (fun h57 => ?_) (fun h57 => ?_)
      · refine v_assign rfl ?_
        refine v_nil ?_
        refine q_n ?_
        refine w_t rfl ?_
        refine w_skip ?_
        refine q_n ?_
        refine w_t rfl ?_
        refine w_seq ?_
        refine w_reg rfl ?_
        refine v_move rfl ?_
        refine v_not true rfl rfl ?_
        refine v_call (c88 _ _) rfl rfl rfl (.cons vw_v (.cons vw_v .nil)) ?_
        refine v_assign rfl ?_
        refine v_nil ?_
        refine q_n ?_
        refine w_ret (q_br (q_r ?_))
        refine r_r rfl ?_
        exact a_i (by rw [do_cd]; unfold cdB; rw [ha, Int.toNat_natCast]; grind [firstNZ])
      refine v_assign rfl ?_
      refine v_nil ?_
      refine q_n ?_
      refine w_f rfl ?_
      refine w_reg rfl ?_
      refine v_eql lay2 rfl rfl (fun h58 => ?_) (fun h58 => ?_)
      · refine v_assign rfl ?_
        refine v_nil ?_
        refine q_n ?_
        refine w_t rfl ?_
        refine w_seq ?_
        refine w_reg rfl ?_
        refine v_move rfl ?_
        refine v_not true rfl rfl ?_
        refine v_call (c88 _ _) rfl rfl rfl (.cons vw_v (.cons vw_v .nil)) ?_
        refine v_assign rfl ?_
        refine v_nil ?_
        refine q_n ?_
        refine w_ret (q_br (q_r ?_))
        refine r_r rfl ?_
        exact a_i (by rw [do_cd]; unfold cdB; rw [ha, Int.toNat_natCast]; grind [firstNZ])
      refine v_assign rfl ?_
      refine v_nil ?_
      refine q_n ?_
      refine w_f rfl ?_
      refine w_seq ?_
      refine w_reg rfl ?_
      refine v_eql lay2 rfl rfl (fun h59 => ?_) (fun h59 => ?_)
      rotate_left
      · refine v_assign rfl ?_
        refine v_nil ?_
        refine q_n ?_
        refine w_f rfl ?_
        refine w_skip ?_
        refine q_bn ?_
        refine q_n ?_
        refine w_seq ?_
        refine w_reg rfl ?_
        refine v_move rfl ?_
        refine v_not true rfl rfl ?_
        refine v_call (c88 _ _) rfl rfl rfl (.cons vw_v (.cons vw_v .nil)) ?_
        refine v_assign rfl ?_
        refine v_nil ?_
        refine q_n ?_
        refine w_ret ?_
        refine r_r rfl ?_
        exact a_i (by rw [do_cd]; unfold cdB; rw [ha, Int.toNat_natCast]; grind [firstNZ])
      refine v_assign rfl ?_
      refine v_nil ?_
      refine q_n ?_
      refine w_t rfl ?_
      refine w_seq ?_
      refine w_seq ?_
      refine w_reg rfl ?_
      refine v_move rfl ?_
      refine v_not true rfl rfl ?_
      refine v_nil ?_
      refine q_n ?_
      refine w_t rfl ?_
      refine w_seq ?_
      refine w_reg rfl ?_
      refine v_assign (c := .v (.int .i64 2)) rfl ?_
      refine v_nil ?_
      refine q_n ?_
      refine w_ret (q_r (q_br (q_r ?_)))
      refine r_r rfl ?_
      exact a_i (by rw [do_cd]; unfold cdB; rw [ha, Int.toNat_natCast]; grind [firstNZ])
    refine d_q rfl rfl rfl rfl rfl ?_
    refine v_move rfl ?_
    refine v_nil ?_
    refine d_q rfl rfl rfl rfl rfl ?_
    refine v_nil_vw rfl ?_
    refine v_nil ?_
    refine d_q rfl rfl rfl rfl rfl ?_
    refine v_fa_vw (off' := 0) lay94 rfl rfl rfl ?_
    refine v_nil ?_
    refine d_q rfl rfl rfl rfl rfl ?_
    refine v_fa_vw (off' := 4) lay64 rfl rfl rfl ?_
    refine v_nil ?_
    refine d_q rfl rfl rfl rfl rfl ?_
    refine v_load_vw (.c (_)) lay62 rfl rfl rfl ?_
    refine v_nil ?_
    refine d_q rfl rfl rfl rfl rfl ?_
    refine v_len_sl lay62 rfl ?_
    refine v_nil ?_
    refine d_q rfl rfl rfl rfl rfl ?_
    refine v_eql lay3 rfl rfl (fun h34 => ?_) (fun h34 => ?_)
    · refine v_nil ?_
      refine d_q rfl rfl rfl rfl rfl ?_
      refine v_assign rfl ?_
      refine v_nil ?_
      refine d_q rfl rfl rfl rfl rfl ?_
      refine v_assign rfl ?_
      refine v_nil ?_
      refine d_q rfl rfl rfl rfl rfl ?_
      refine v_assign rfl ?_
      refine v_nil ?_
      refine d_nil ?_
      refine q_n ?_
      refine w_seq ?_
      refine w_seq ?_
      refine w_reg rfl ?_
      refine v_fa_pt (off' := 0) lay25 rfl rfl rfl ?_
      refine v_load_pt (.c _) lay2 rfl rfl rfl rfl ?_
      refine v_nil ?_
      refine q_n ?_
      refine w_block ?_
      refine w_seq ?_
      refine w_reg rfl ?_
      refine v_eql lay2 rfl rfl (fun h35 => ?_) (fun h35 => ?_)
      · refine v_assign rfl ?_
        refine v_nil ?_
        refine q_n ?_
        refine w_t rfl ?_
        refine w_seq ?_
        refine w_draw [0, 1, 3, 7, 15, 7, 39, 103, 231, 487, 1023, 2047, 4095, 8191] [⟨0, 0, []⟩, ⟨1, 0, []⟩, ⟨2, 0, []⟩, ⟨3, 0, []⟩, ⟨4, 0, []⟩, ⟨5, 0, []⟩, ⟨6, 0, []⟩, ⟨7, 0, []⟩, ⟨8, 0, []⟩, ⟨9, 0, []⟩, ⟨10, 0, []⟩, ⟨11, 0, []⟩, ⟨12, 0, []⟩, ⟨13, 0, []⟩] rfl rfl ?_
        refine d_q rfl rfl rfl rfl rfl ?_
        refine v_move rfl ?_
        refine v_nil ?_
        refine d_q rfl rfl rfl rfl rfl ?_
        refine v_not true rfl rfl ?_
        refine v_nil ?_
        refine d_q rfl rfl rfl rfl rfl ?_
        refine v_move rfl ?_
        refine v_nil ?_
        refine d_off rfl rfl ?_
        refine d_off rfl rfl ?_
        refine d_off rfl rfl ?_
        refine d_off rfl rfl ?_
        refine d_off rfl rfl ?_
        refine d_off rfl rfl ?_
        refine d_off rfl rfl ?_
        refine d_off rfl rfl ?_
        refine d_q rfl rfl rfl rfl rfl ?_
        refine v_pick_t (v := .v (.bool true)) rfl rfl ?_
        refine v_nil ?_
        refine d_call (c88 _ _) rfl rfl rfl rfl rfl (.cons vw_v (.cons vw_v .nil)) ?_
        refine d_q rfl rfl rfl rfl rfl ?_
        refine v_assign rfl ?_
        refine v_nil ?_
        refine d_nil ?_
        refine q_n ?_
        refine w_ret (q_br (q_r ?_))
        refine r_r rfl ?_
        exact a_i (by rw [do_cd]; unfold cdB; rw [ha, Int.toNat_natCast]; grind [firstNZ])
      refine v_assign rfl ?_
      refine v_nil ?_
      refine q_n ?_
      refine w_f rfl ?_
      refine w_seq ?_
      refine w_reg rfl ?_
      refine v_eql lay2 rfl rfl (fun h36 => ?_) (fun h36 => ?_)
      · refine v_assign rfl ?_
        refine v_nil ?_
        refine q_n ?_
        refine w_t rfl ?_
        refine w_seq ?_
        refine w_reg rfl ?_
        refine v_move rfl ?_
        refine v_not true rfl rfl ?_
        refine v_call (c88 _ _) rfl rfl rfl (.cons vw_v (.cons vw_v .nil)) ?_
        refine v_move rfl ?_
        refine v_call (c88 _ _) rfl rfl rfl (.cons vw_v (.cons vw_v .nil)) ?_
        refine v_lit (flat int [_, _]) (H' := [_, _]) lay28 lay2 rfl rfl ⟨by decide, by decide⟩ rfl rfl ?_
        refine v_call (c87 [_, _] (Nat.le_of_ble_eq_true rfl)) rfl rfl rfl (.cons (vw_mu2 int_sc int_len rfl (by first | (simp; done) | (simp; omega))) .nil) ?_
        refine v_assign rfl ?_
        refine v_nil ?_
        refine q_n ?_
        refine w_ret (q_br (q_r ?_))
        refine r_r rfl ?_
        exact a_i (by rw [do_cd]; unfold cdB; rw [ha, Int.toNat_natCast]; grind [firstNZ])
      refine v_assign rfl ?_
      refine v_nil ?_
      refine q_n ?_
      refine w_f rfl ?_
      refine w_seq ?_
      refine w_seq ?_
      refine w_reg rfl ?_
      refine v_eql lay2 rfl rfl (fun h37 => ?_) (fun h37 => ?_)
      · refine v_assign rfl ?_
        refine v_nil ?_
        refine q_n ?_
        refine w_t rfl ?_
        refine w_skip ?_
        refine q_n ?_
        refine w_t rfl ?_
        refine w_seq ?_
        refine w_reg rfl ?_
        refine v_move rfl ?_
        refine v_not false rfl rfl ?_
        refine v_call (c88 _ _) rfl rfl rfl (.cons vw_v (.cons vw_v .nil)) ?_
        refine v_assign rfl ?_
        refine v_nil ?_
        refine q_n ?_
        refine w_ret (q_br (q_r ?_))
        refine r_r rfl ?_
        exact a_i (by rw [do_cd]; unfold cdB; rw [ha, Int.toNat_natCast]; grind [firstNZ])
      refine v_assign rfl ?_
      refine v_nil ?_
      refine q_n ?_
      refine w_f rfl ?_
      refine w_reg rfl ?_
      refine v_eql lay2 rfl rfl (fun h38 => ?_) (fun h38 => ?_)
      · refine v_assign rfl ?_
        refine v_nil ?_
        refine q_n ?_
        refine w_t rfl ?_
        refine w_seq ?_
        refine w_reg rfl ?_
        refine v_move rfl ?_
        refine v_not false rfl rfl ?_
        refine v_call (c88 _ _) rfl rfl rfl (.cons vw_v (.cons vw_v .nil)) ?_
        refine v_assign rfl ?_
        refine v_nil ?_
        refine q_n ?_
        refine w_ret (q_br (q_r ?_))
        refine r_r rfl ?_
        exact a_i (by rw [do_cd]; unfold cdB; rw [ha, Int.toNat_natCast]; grind [firstNZ])
      refine v_assign rfl ?_
      refine v_nil ?_
      refine q_n ?_
      refine w_f rfl ?_
      refine w_seq ?_
      refine w_reg rfl ?_
      refine v_eql lay2 rfl rfl (fun h39 => ?_) (fun h39 => ?_)
      rotate_left
      · refine v_assign rfl ?_
        refine v_nil ?_
        refine q_n ?_
        refine w_f rfl ?_
        refine w_skip ?_
        refine q_bn ?_
        refine q_n ?_
        refine w_seq ?_
        refine w_reg rfl ?_
        refine v_move rfl ?_
        refine v_not true rfl rfl ?_
        refine v_call (c88 _ _) rfl rfl rfl (.cons vw_v (.cons vw_v .nil)) ?_
        refine v_assign rfl ?_
        refine v_nil ?_
        refine q_n ?_
        refine w_ret ?_
        refine r_r rfl ?_
        exact a_i (by rw [do_cd]; unfold cdB; rw [ha, Int.toNat_natCast]; grind [firstNZ])
      refine v_assign rfl ?_
      refine v_nil ?_
      refine q_n ?_
      refine w_t rfl ?_
      refine w_seq ?_
      refine w_seq ?_
      refine w_reg rfl ?_
      refine v_move rfl ?_
      refine v_not false rfl rfl ?_
      refine v_nil ?_
      refine q_n ?_
      refine w_f rfl ?_
      refine w_skip ?_
      refine q_n ?_
      refine w_seq ?_
      refine w_draw [0, 1, 3, 7, 15, 0, 32, 127, 255, 511, 1023, 2047, 4095, 8191, 16383, 32767] [⟨0, 0, []⟩, ⟨1, 0, []⟩, ⟨2, 0, []⟩, ⟨3, 0, []⟩, ⟨4, 0, []⟩, ⟨5, 0, []⟩, ⟨6, 0, []⟩, ⟨7, 0, []⟩, ⟨8, 0, []⟩, ⟨9, 0, []⟩, ⟨10, 0, []⟩, ⟨11, 0, []⟩, ⟨12, 0, []⟩, ⟨13, 0, []⟩, ⟨14, 0, []⟩, ⟨15, 0, []⟩] rfl rfl ?_
      refine d_q rfl rfl rfl rfl rfl ?_
      refine v_move rfl ?_
      refine v_nil ?_
      refine d_q rfl rfl rfl rfl rfl ?_
      refine v_nil_vw rfl ?_
      refine v_nil ?_
      refine d_q rfl rfl rfl rfl rfl ?_
      refine v_fa_vw (off' := 0) lay94 rfl rfl rfl ?_
      refine v_nil ?_
      refine d_q rfl rfl rfl rfl rfl ?_
      refine v_fa_vw (off' := 4) lay64 rfl rfl rfl ?_
      refine v_nil ?_
      refine d_q rfl rfl rfl rfl rfl ?_
      refine v_load_vw (.c (_)) lay62 rfl rfl rfl ?_
      refine v_nil ?_
      refine d_q rfl rfl rfl rfl rfl ?_
      refine v_fa_pt (off' := 1) lay25 rfl rfl rfl ?_
      refine v_nil ?_
      refine d_q rfl rfl rfl rfl rfl ?_
      refine v_load_pt (.c _) lay2 rfl rfl rfl rfl ?_
      refine v_nil ?_
      refine d_q rfl rfl rfl rfl rfl ?_
      refine v_idx_e (k := 4) (a) nce_len lay62 lay101 rfl rfl rfl (rfl) rfl (ha) (by omega) ?_
      refine v_nil ?_
      refine d_q rfl rfl rfl rfl rfl ?_
      refine v_fa_vw (off' := 0) lay101 rfl rfl rfl ?_
      refine v_nil ?_
      refine d_q rfl rfl rfl rfl rfl ?_
      refine v_load_vwb lay4 rfl rfl rfl (fun h41 => ?_) (fun h41 => ?_)
      · refine v_nil ?_
        refine d_q rfl rfl rfl rfl rfl ?_
        refine v_not false rfl rfl ?_
        refine v_nil ?_
        refine d_q rfl rfl rfl rfl rfl ?_
        refine v_move rfl ?_
        refine v_nil ?_
        refine d_off rfl rfl ?_
        refine d_q rfl rfl rfl rfl rfl ?_
        refine v_pick_f (v := .v (.bool false)) rfl rfl ?_
        refine v_nil ?_
        refine d_call (c88 _ _) rfl rfl rfl rfl rfl (.cons vw_v (.cons vw_v .nil)) ?_
        refine d_q rfl rfl rfl rfl rfl ?_
        refine v_assign rfl ?_
        refine v_nil ?_
        refine d_nil ?_
        refine q_n ?_
        refine w_ret (q_br (q_r ?_))
        refine r_r rfl ?_
        exact a_i (by rw [do_cd]; unfold cdB; rw [ha, Int.toNat_natCast]; grind [firstNZ])
      refine v_nil ?_
      refine d_q rfl rfl rfl rfl rfl ?_
      refine v_not true rfl rfl ?_
      refine v_nil ?_
      refine d_q rfl rfl rfl rfl rfl ?_
      refine v_move rfl ?_
      refine v_nil ?_
      refine d_q rfl rfl rfl rfl rfl ?_
      refine v_move rfl ?_
      refine v_nil ?_
      refine d_q rfl rfl rfl rfl rfl ?_
      refine v_pick_t rfl rfl ?_
      refine v_nil ?_
      refine d_call (c88 _ _) rfl rfl rfl rfl rfl (.cons vw_v (.cons vw_v .nil)) ?_
      refine d_q rfl rfl rfl rfl rfl ?_
      refine v_assign rfl ?_
      refine v_nil ?_
      refine d_nil ?_
      refine q_n ?_
      refine w_ret (q_br (q_r ?_))
      refine r_r rfl ?_
      exact a_i (by rw [do_cd]; unfold cdB; rw [ha, Int.toNat_natCast]; grind [firstNZ])
    refine v_nil ?_
    refine d_q rfl rfl rfl rfl rfl ?_
    refine v_assign rfl ?_
    refine v_nil ?_
    refine d_q rfl rfl rfl rfl rfl ?_
    refine v_assign rfl ?_
    refine v_nil ?_
    refine d_q rfl rfl rfl rfl rfl ?_
    refine v_assign rfl ?_
    refine v_nil ?_
    refine d_nil ?_
    refine q_n ?_
    refine w_seq ?_
    refine w_seq ?_
    refine w_reg rfl ?_
    refine v_fa_pt (off' := 0) lay25 rfl rfl rfl ?_
    refine v_load_pt (.c _) lay2 rfl rfl rfl rfl ?_
    refine v_nil ?_
    refine q_n ?_
    refine w_block ?_
    refine w_seq ?_
    refine w_reg rfl ?_
    refine v_eql lay2 rfl rfl (fun h42 => ?_) (fun h42 => ?_)
    · refine v_assign rfl ?_
      refine v_nil ?_
      refine q_n ?_
      refine w_t rfl ?_
      refine w_seq ?_
      refine w_draw [0, 1, 3, 7, 15, 7, 39, 103, 231, 487, 1023, 2047, 4095, 8191] [⟨0, 0, []⟩, ⟨1, 0, []⟩, ⟨2, 0, []⟩, ⟨3, 0, []⟩, ⟨4, 0, []⟩, ⟨5, 0, []⟩, ⟨6, 0, []⟩, ⟨7, 0, []⟩, ⟨8, 0, []⟩, ⟨9, 0, []⟩, ⟨10, 0, []⟩, ⟨11, 0, []⟩, ⟨12, 0, []⟩, ⟨13, 0, []⟩] rfl rfl ?_
      refine d_q rfl rfl rfl rfl rfl ?_
      refine v_move rfl ?_
      refine v_nil ?_
      refine d_q rfl rfl rfl rfl rfl ?_
      refine v_not true rfl rfl ?_
      refine v_nil ?_
      refine d_q rfl rfl rfl rfl rfl ?_
      refine v_move rfl ?_
      refine v_nil ?_
      refine d_off rfl rfl ?_
      refine d_off rfl rfl ?_
      refine d_off rfl rfl ?_
      refine d_off rfl rfl ?_
      refine d_off rfl rfl ?_
      refine d_off rfl rfl ?_
      refine d_off rfl rfl ?_
      refine d_off rfl rfl ?_
      refine d_q rfl rfl rfl rfl rfl ?_
      refine v_pick_t (v := .v (.bool true)) rfl rfl ?_
      refine v_nil ?_
      refine d_call (c88 _ _) rfl rfl rfl rfl rfl (.cons vw_v (.cons vw_v .nil)) ?_
      refine d_q rfl rfl rfl rfl rfl ?_
      refine v_assign rfl ?_
      refine v_nil ?_
      refine d_nil ?_
      refine q_n ?_
      refine w_ret (q_br (q_r ?_))
      refine r_r rfl ?_
      exact a_i (by rw [do_cd]; unfold cdB; rw [ha, Int.toNat_natCast]; grind [firstNZ])
    refine v_assign rfl ?_
    refine v_nil ?_
    refine q_n ?_
    refine w_f rfl ?_
    refine w_seq ?_
    refine w_reg rfl ?_
    refine v_eql lay2 rfl rfl (fun h43 => ?_) (fun h43 => ?_)
    · refine v_assign rfl ?_
      refine v_nil ?_
      refine q_n ?_
      refine w_t rfl ?_
      refine w_seq ?_
      refine w_reg rfl ?_
      refine v_move rfl ?_
      refine v_not true rfl rfl ?_
      refine v_call (c88 _ _) rfl rfl rfl (.cons vw_v (.cons vw_v .nil)) ?_
      refine v_move rfl ?_
      refine v_call (c88 _ _) rfl rfl rfl (.cons vw_v (.cons vw_v .nil)) ?_
      refine v_lit (flat int [_, _]) (H' := [_, _]) lay28 lay2 rfl rfl ⟨by decide, by decide⟩ rfl rfl ?_
      refine v_call (c87 [_, _] (Nat.le_of_ble_eq_true rfl)) rfl rfl rfl (.cons (vw_mu2 int_sc int_len rfl (by first | (simp; done) | (simp; omega))) .nil) ?_
      refine v_assign rfl ?_
      refine v_nil ?_
      refine q_n ?_
      refine w_ret (q_br (q_r ?_))
      refine r_r rfl ?_
      exact a_i (by rw [do_cd]; unfold cdB; rw [ha, Int.toNat_natCast]; grind [firstNZ])
    refine v_assign rfl ?_
    refine v_nil ?_
    refine q_n ?_
    refine w_f rfl ?_
    refine w_seq ?_
    refine w_seq ?_
    refine w_reg rfl ?_
    refine v_eql lay2 rfl rfl (fun h44 => ?_) (fun h44 => ?_)
    · refine v_assign rfl ?_
      refine v_nil ?_
      refine q_n ?_
      refine w_t rfl ?_
      refine w_skip ?_
      refine q_n ?_
      refine w_t rfl ?_
      refine w_seq ?_
      refine w_reg rfl ?_
      refine v_move rfl ?_
      refine v_not false rfl rfl ?_
      refine v_call (c88 _ _) rfl rfl rfl (.cons vw_v (.cons vw_v .nil)) ?_
      refine v_assign rfl ?_
      refine v_nil ?_
      refine q_n ?_
      refine w_ret (q_br (q_r ?_))
      refine r_r rfl ?_
      exact a_i (by rw [do_cd]; unfold cdB; rw [ha, Int.toNat_natCast]; grind [firstNZ])
    refine v_assign rfl ?_
    refine v_nil ?_
    refine q_n ?_
    refine w_f rfl ?_
    refine w_reg rfl ?_
    refine v_eql lay2 rfl rfl (fun h45 => ?_) (fun h45 => ?_)
    · refine v_assign rfl ?_
      refine v_nil ?_
      refine q_n ?_
      refine w_t rfl ?_
      refine w_seq ?_
      refine w_reg rfl ?_
      refine v_move rfl ?_
      refine v_not false rfl rfl ?_
      refine v_call (c88 _ _) rfl rfl rfl (.cons vw_v (.cons vw_v .nil)) ?_
      refine v_assign rfl ?_
      refine v_nil ?_
      refine q_n ?_
      refine w_ret (q_br (q_r ?_))
      refine r_r rfl ?_
      exact a_i (by rw [do_cd]; unfold cdB; rw [ha, Int.toNat_natCast]; grind [firstNZ])
    refine v_assign rfl ?_
    refine v_nil ?_
    refine q_n ?_
    refine w_f rfl ?_
    refine w_seq ?_
    refine w_reg rfl ?_
    refine v_eql lay2 rfl rfl (fun h46 => ?_) (fun h46 => ?_)
    rotate_left
    · refine v_assign rfl ?_
      refine v_nil ?_
      refine q_n ?_
      refine w_f rfl ?_
      refine w_skip ?_
      refine q_bn ?_
      refine q_n ?_
      refine w_seq ?_
      refine w_reg rfl ?_
      refine v_move rfl ?_
      refine v_not true rfl rfl ?_
      refine v_call (c88 _ _) rfl rfl rfl (.cons vw_v (.cons vw_v .nil)) ?_
      refine v_assign rfl ?_
      refine v_nil ?_
      refine q_n ?_
      refine w_ret ?_
      refine r_r rfl ?_
      exact a_i (by rw [do_cd]; unfold cdB; rw [ha, Int.toNat_natCast]; grind [firstNZ])
    refine v_assign rfl ?_
    refine v_nil ?_
    refine q_n ?_
    refine w_t rfl ?_
    refine w_seq ?_
    refine w_seq ?_
    refine w_reg rfl ?_
    refine v_move rfl ?_
    refine v_not false rfl rfl ?_
    refine v_nil ?_
    refine q_n ?_
    refine w_f rfl ?_
    refine w_skip ?_
    refine q_n ?_
    refine w_seq ?_
    refine w_draw [0, 1, 3, 7, 15, 0, 32, 127, 255, 511, 1023, 2047, 4095, 8191, 16383, 32767] [⟨0, 0, []⟩, ⟨1, 0, []⟩, ⟨2, 0, []⟩, ⟨3, 0, []⟩, ⟨4, 0, []⟩, ⟨5, 0, []⟩, ⟨6, 0, []⟩, ⟨7, 0, []⟩, ⟨8, 0, []⟩, ⟨9, 0, []⟩, ⟨10, 0, []⟩, ⟨11, 0, []⟩, ⟨12, 0, []⟩, ⟨13, 0, []⟩, ⟨14, 0, []⟩, ⟨15, 0, []⟩] rfl rfl ?_
    refine d_q rfl rfl rfl rfl rfl ?_
    refine v_move rfl ?_
    refine v_nil ?_
    refine d_q rfl rfl rfl rfl rfl ?_
    refine v_nil_vw rfl ?_
    refine v_nil ?_
    refine d_q rfl rfl rfl rfl rfl ?_
    refine v_fa_vw (off' := 0) lay94 rfl rfl rfl ?_
    refine v_nil ?_
    refine d_q rfl rfl rfl rfl rfl ?_
    refine v_fa_vw (off' := 4) lay64 rfl rfl rfl ?_
    refine v_nil ?_
    refine d_q rfl rfl rfl rfl rfl ?_
    refine v_load_vw (.c (_)) lay62 rfl rfl rfl ?_
    refine v_nil ?_
    refine d_q rfl rfl rfl rfl rfl ?_
    refine v_fa_pt (off' := 1) lay25 rfl rfl rfl ?_
    refine v_nil ?_
    refine d_q rfl rfl rfl rfl rfl ?_
    refine v_load_pt (.c _) lay2 rfl rfl rfl rfl ?_
    refine v_nil ?_
    refine d_q rfl rfl rfl rfl rfl ?_
    refine v_idx_e (k := 4) (a) nce_len lay62 lay101 rfl rfl rfl (rfl) rfl (ha) (by omega) ?_
    refine v_nil ?_
    refine d_q rfl rfl rfl rfl rfl ?_
    refine v_fa_vw (off' := 0) lay101 rfl rfl rfl ?_
    refine v_nil ?_
    refine d_q rfl rfl rfl rfl rfl ?_
    refine v_load_vwb lay4 rfl rfl rfl (fun h48 => ?_) (fun h48 => ?_)
    · refine v_nil ?_
      refine d_q rfl rfl rfl rfl rfl ?_
      refine v_not false rfl rfl ?_
      refine v_nil ?_
      refine d_q rfl rfl rfl rfl rfl ?_
      refine v_move rfl ?_
      refine v_nil ?_
      refine d_off rfl rfl ?_
      refine d_q rfl rfl rfl rfl rfl ?_
      refine v_pick_f (v := .v (.bool false)) rfl rfl ?_
      refine v_nil ?_
      refine d_call (c88 _ _) rfl rfl rfl rfl rfl (.cons vw_v (.cons vw_v .nil)) ?_
      refine d_q rfl rfl rfl rfl rfl ?_
      refine v_assign rfl ?_
      refine v_nil ?_
      refine d_nil ?_
      refine q_n ?_
      refine w_ret (q_br (q_r ?_))
      refine r_r rfl ?_
      exact a_i (by rw [do_cd]; unfold cdB; rw [ha, Int.toNat_natCast]; grind [firstNZ])
    refine v_nil ?_
    refine d_q rfl rfl rfl rfl rfl ?_
    refine v_not true rfl rfl ?_
    refine v_nil ?_
    refine d_q rfl rfl rfl rfl rfl ?_
    refine v_move rfl ?_
    refine v_nil ?_
    refine d_q rfl rfl rfl rfl rfl ?_
    refine v_move rfl ?_
    refine v_nil ?_
    refine d_q rfl rfl rfl rfl rfl ?_
    refine v_pick_t rfl rfl ?_
    refine v_nil ?_
    refine d_call (c88 _ _) rfl rfl rfl rfl rfl (.cons vw_v (.cons vw_v .nil)) ?_
    refine d_q rfl rfl rfl rfl rfl ?_
    refine v_assign rfl ?_
    refine v_nil ?_
    refine d_nil ?_
    refine q_n ?_
    refine w_ret (q_br (q_r ?_))
    refine r_r rfl ?_
    exact a_i (by rw [do_cd]; unfold cdB; rw [ha, Int.toNat_natCast]; grind [firstNZ])
  refine d_q rfl rfl rfl rfl rfl ?_
  refine v_fa_pt (off' := 1) lay25 rfl rfl rfl ?_
  refine v_nil ?_
  refine d_q rfl rfl rfl rfl rfl ?_
  refine v_load_pt (.c _) lay2 rfl rfl rfl rfl ?_
  refine v_nil ?_
  refine d_q rfl rfl rfl rfl rfl ?_
  refine v_move rfl ?_
  refine v_nil ?_
  refine d_q rfl rfl rfl rfl rfl ?_
  refine v_nil_vw rfl ?_
  refine v_nil ?_
  refine d_q rfl rfl rfl rfl rfl ?_
  refine v_fa_vw (off' := 0) lay94 rfl rfl rfl ?_
  refine v_nil ?_
  refine d_q rfl rfl rfl rfl rfl ?_
  refine v_fa_vw (off' := 4) lay64 rfl rfl rfl ?_
  refine v_nil ?_
  refine d_q rfl rfl rfl rfl rfl ?_
  refine v_load_vw (.c (_)) lay62 rfl rfl rfl ?_
  refine v_nil ?_
  refine d_q rfl rfl rfl rfl rfl ?_
  refine v_len_sl lay62 rfl ?_
  refine v_nil ?_
  refine d_callb (c89 _ _ (by omega)) rfl rfl rfl rfl (.cons vw_v (.cons vw_v .nil)) (fun h2 => ?_) (fun h2 => ?_)
  rotate_left
  · refine d_q rfl rfl rfl rfl rfl ?_
    refine v_move rfl ?_
    refine v_nil ?_
    refine d_q rfl rfl rfl rfl rfl ?_
    refine v_nil_vw rfl ?_
    refine v_nil ?_
    refine d_q rfl rfl rfl rfl rfl ?_
    refine v_fa_vw (off' := 0) lay94 rfl rfl rfl ?_
    refine v_nil ?_
    refine d_q rfl rfl rfl rfl rfl ?_
    refine v_fa_vw (off' := 4) lay64 rfl rfl rfl ?_
    refine v_nil ?_
    refine d_q rfl rfl rfl rfl rfl ?_
    refine v_load_vw (.c (_)) lay62 rfl rfl rfl ?_
    refine v_nil ?_
    refine d_q rfl rfl rfl rfl rfl ?_
    refine v_len_sl lay62 rfl ?_
    refine v_nil ?_
    refine d_q rfl rfl rfl rfl rfl ?_
    refine v_eql lay3 rfl rfl (fun h20 => ?_) (fun h20 => ?_)
    · refine v_nil ?_
      refine d_q rfl rfl rfl rfl rfl ?_
      refine v_assign rfl ?_
      refine v_nil ?_
      refine d_q rfl rfl rfl rfl rfl ?_
      refine v_assign rfl ?_
      refine v_nil ?_
      refine d_q rfl rfl rfl rfl rfl ?_
      refine v_assign rfl ?_
      refine v_nil ?_
      refine d_nil ?_
      refine q_n ?_
      refine w_seq ?_
      refine w_seq ?_
      refine w_reg rfl ?_
      refine v_fa_pt (off' := 0) lay25 rfl rfl rfl ?_
      refine v_load_pt (.c _) lay2 rfl rfl rfl rfl ?_
      refine v_nil ?_
      refine q_n ?_
      refine w_block ?_
      refine w_seq ?_
      refine w_reg rfl ?_
      refine v_eql lay2 rfl rfl (fun h21 => ?_) (fun h21 => ?_)
      · refine v_assign rfl ?_
        refine v_nil ?_
        refine q_n ?_
        refine w_t rfl ?_
        refine w_seq ?_
        refine w_draw [0, 1, 3, 7, 15, 7, 39, 103, 231, 487, 1023, 2047, 4095, 8191] [⟨0, 0, []⟩, ⟨1, 0, []⟩, ⟨2, 0, []⟩, ⟨3, 0, []⟩, ⟨4, 0, []⟩, ⟨5, 0, []⟩, ⟨6, 0, []⟩, ⟨7, 0, []⟩, ⟨8, 0, []⟩, ⟨9, 0, []⟩, ⟨10, 0, []⟩, ⟨11, 0, []⟩, ⟨12, 0, []⟩, ⟨13, 0, []⟩] rfl rfl ?_
        refine d_q rfl rfl rfl rfl rfl ?_
        refine v_move rfl ?_
        refine v_nil ?_
        refine d_q rfl rfl rfl rfl rfl ?_
        refine v_not false rfl rfl ?_
        refine v_nil ?_
        refine d_q rfl rfl rfl rfl rfl ?_
        refine v_move rfl ?_
        refine v_nil ?_
        refine d_q rfl rfl rfl rfl rfl ?_
        refine v_fa_pt (off' := 2) lay25 rfl rfl rfl ?_
        refine v_nil ?_
        refine d_q rfl rfl rfl rfl rfl ?_
        refine v_load_pt (.c _) lay2 rfl rfl rfl rfl ?_
        refine v_nil ?_
        refine d_q rfl rfl rfl rfl rfl ?_
        refine v_move rfl ?_
        refine v_nil ?_
        refine d_q rfl rfl rfl rfl rfl ?_
        refine v_nil_vw rfl ?_
        refine v_nil ?_
        refine d_q rfl rfl rfl rfl rfl ?_
        refine v_fa_vw (off' := 5) lay94 rfl rfl rfl ?_
        refine v_nil ?_
        refine d_q rfl rfl rfl rfl rfl ?_
        refine v_fa_vw (off' := 5) lay33 rfl rfl rfl ?_
        refine v_nil ?_
        refine d_q rfl rfl rfl rfl rfl ?_
        refine v_load_vw (.c (.v _)) lay2 rfl rfl rfl ?_
        refine v_nil ?_
        refine d_q rfl rfl rfl rfl rfl ?_
        refine v_geq lay2 rfl rfl (fun h22 => ?_) (fun h22 => ?_)
        · refine v_nil ?_
          refine d_q rfl rfl rfl rfl rfl ?_
          refine v_pick_f rfl rfl ?_
          refine v_nil ?_
          refine d_call (c88 _ _) rfl rfl rfl rfl rfl (.cons vw_v (.cons vw_v .nil)) ?_
          refine d_q rfl rfl rfl rfl rfl ?_
          refine v_assign rfl ?_
          refine v_nil ?_
          refine d_nil ?_
          refine q_n ?_
          refine w_ret (q_br (q_r ?_))
          refine r_r rfl ?_
          exact a_i (by rw [do_cd]; unfold cdB; rw [ha, Int.toNat_natCast]; grind [firstNZ])
        refine v_nil ?_
        refine d_q rfl rfl rfl rfl rfl ?_
        refine v_pick_f rfl rfl ?_
        refine v_nil ?_
        refine d_call (c88 _ _) rfl rfl rfl rfl rfl (.cons vw_v (.cons vw_v .nil)) ?_
        refine d_q rfl rfl rfl rfl rfl ?_
        refine v_assign rfl ?_
        refine v_nil ?_
        refine d_nil ?_
        refine q_n ?_
        refine w_ret (q_br (q_r ?_))
        refine r_r rfl ?_
        exact a_i (by rw [do_cd]; unfold cdB; rw [ha, Int.toNat_natCast]; grind [firstNZ])
      refine v_assign rfl ?_
      refine v_nil ?_
      refine q_n ?_
      refine w_f rfl ?_
      refine w_seq ?_
      refine w_reg rfl ?_
      refine v_eql lay2 rfl rfl (fun h23 => ?_) (fun h23 => ?_)
      · refine v_assign rfl ?_
        refine v_nil ?_
        refine q_n ?_
        refine w_t rfl ?_
        refine w_seq ?_
        refine w_reg rfl ?_
        refine v_move rfl ?_
        refine v_not false rfl rfl ?_
        refine v_call (c88 _ _) rfl rfl rfl (.cons vw_v (.cons vw_v .nil)) ?_
        refine v_move rfl ?_
        refine v_call (c88 _ _) rfl rfl rfl (.cons vw_v (.cons vw_v .nil)) ?_
        refine v_lit (flat int [_, _]) (H' := [_, _]) lay28 lay2 rfl rfl ⟨by decide, by decide⟩ rfl rfl ?_
        refine v_call (c87 [_, _] (Nat.le_of_ble_eq_true rfl)) rfl rfl rfl (.cons (vw_mu2 int_sc int_len rfl (by first | (simp; done) | (simp; omega))) .nil) ?_
        refine v_assign rfl ?_
        refine v_nil ?_
        refine q_n ?_
        refine w_ret (q_br (q_r ?_))
        refine r_r rfl ?_
        exact a_i (by rw [do_cd]; unfold cdB; rw [ha, Int.toNat_natCast]; grind [firstNZ])
      refine v_assign rfl ?_
      refine v_nil ?_
      refine q_n ?_
      refine w_f rfl ?_
      refine w_seq ?_
      refine w_seq ?_
      refine w_reg rfl ?_
      refine v_eql lay2 rfl rfl (fun h24 => ?_) (fun h24 => ?_)
      · refine v_assign rfl ?_
        refine v_nil ?_
        refine q_n ?_
        refine w_t rfl ?_
        refine w_skip ?_
        refine q_n ?_
        refine w_t rfl ?_
        refine w_seq ?_
        refine w_reg rfl ?_
        refine v_move rfl ?_
        refine v_not true rfl rfl ?_
        refine v_call (c88 _ _) rfl rfl rfl (.cons vw_v (.cons vw_v .nil)) ?_
        refine v_assign rfl ?_
        refine v_nil ?_
        refine q_n ?_
        refine w_ret (q_br (q_r ?_))
        refine r_r rfl ?_
        exact a_i (by rw [do_cd]; unfold cdB; rw [ha, Int.toNat_natCast]; grind [firstNZ])
      refine v_assign rfl ?_
      refine v_nil ?_
      refine q_n ?_
      refine w_f rfl ?_
      refine w_reg rfl ?_
      refine v_eql lay2 rfl rfl (fun h25 => ?_) (fun h25 => ?_)
      · refine v_assign rfl ?_
        refine v_nil ?_
        refine q_n ?_
        refine w_t rfl ?_
        refine w_seq ?_
        refine w_reg rfl ?_
        refine v_move rfl ?_
        refine v_not true rfl rfl ?_
        refine v_call (c88 _ _) rfl rfl rfl (.cons vw_v (.cons vw_v .nil)) ?_
        refine v_assign rfl ?_
        refine v_nil ?_
        refine q_n ?_
        refine w_ret (q_br (q_r ?_))
        refine r_r rfl ?_
        exact a_i (by rw [do_cd]; unfold cdB; rw [ha, Int.toNat_natCast]; grind [firstNZ])
      refine v_assign rfl ?_
      refine v_nil ?_
      refine q_n ?_
      refine w_f rfl ?_
      refine w_seq ?_
      refine w_reg rfl ?_
      refine v_eql lay2 rfl rfl (fun h26 => ?_) (fun h26 => ?_)
      rotate_left
      · refine v_assign rfl ?_
        refine v_nil ?_
        refine q_n ?_
        refine w_f rfl ?_
        refine w_skip ?_
        refine q_bn ?_
        refine q_n ?_
        refine w_seq ?_
        refine w_reg rfl ?_
        refine v_move rfl ?_
        refine v_not false rfl rfl ?_
        refine v_call (c88 _ _) rfl rfl rfl (.cons vw_v (.cons vw_v .nil)) ?_
        refine v_assign rfl ?_
        refine v_nil ?_
        refine q_n ?_
        refine w_ret ?_
        refine r_r rfl ?_
        exact a_i (by rw [do_cd]; unfold cdB; rw [ha, Int.toNat_natCast]; grind [firstNZ])
      refine v_assign rfl ?_
      refine v_nil ?_
      refine q_n ?_
      refine w_t rfl ?_
      refine w_seq ?_
      refine w_seq ?_
      refine w_reg rfl ?_
      refine v_move rfl ?_
      refine v_not true rfl rfl ?_
      refine v_nil ?_
      refine q_n ?_
      refine w_t rfl ?_
      refine w_seq ?_
      refine w_reg rfl ?_
      refine v_assign (c := .v (.int .i64 2)) rfl ?_
      refine v_nil ?_
      refine q_n ?_
      refine w_ret (q_r (q_br (q_r ?_)))
      refine r_r rfl ?_
      exact a_i (by rw [do_cd]; unfold cdB; rw [ha, Int.toNat_natCast]; grind [firstNZ])
    refine v_nil ?_
    refine d_q rfl rfl rfl rfl rfl ?_
    refine v_assign rfl ?_
    refine v_nil ?_
    refine d_q rfl rfl rfl rfl rfl ?_
    refine v_assign rfl ?_
    refine v_nil ?_
    refine d_q rfl rfl rfl rfl rfl ?_
    refine v_assign rfl ?_
    refine v_nil ?_
    refine d_nil ?_
    refine q_n ?_
    refine w_seq ?_
    refine w_seq ?_
    refine w_reg rfl ?_
    refine v_fa_pt (off' := 0) lay25 rfl rfl rfl ?_
    refine v_load_pt (.c _) lay2 rfl rfl rfl rfl ?_
    refine v_nil ?_
    refine q_n ?_
    refine w_block ?_
    refine w_seq ?_
    refine w_reg rfl ?_
    refine v_eql lay2 rfl rfl (fun h27 => ?_) (fun h27 => ?_)
    · refine v_assign rfl ?_
      refine v_nil ?_
      refine q_n ?_
      refine w_t rfl ?_
      refine w_seq ?_
      refine w_draw [0, 1, 3, 7, 15, 7, 39, 103, 231, 487, 1023, 2047, 4095, 8191] [⟨0, 0, []⟩, ⟨1, 0, []⟩, ⟨2, 0, []⟩, ⟨3, 0, []⟩, ⟨4, 0, []⟩, ⟨5, 0, []⟩, ⟨6, 0, []⟩, ⟨7, 0, []⟩, ⟨8, 0, []⟩, ⟨9, 0, []⟩, ⟨10, 0, []⟩, ⟨11, 0, []⟩, ⟨12, 0, []⟩, ⟨13, 0, []⟩] rfl rfl ?_
      refine d_q rfl rfl rfl rfl rfl ?_
      refine v_move rfl ?_
      refine v_nil ?_
      refine d_q rfl rfl rfl rfl rfl ?_
      refine v_not false rfl rfl ?_
      refine v_nil ?_
      refine d_q rfl rfl rfl rfl rfl ?_
      refine v_move rfl ?_
      refine v_nil ?_
      refine d_q rfl rfl rfl rfl rfl ?_
      refine v_fa_pt (off' := 2) lay25 rfl rfl rfl ?_
      refine v_nil ?_
      refine d_q rfl rfl rfl rfl rfl ?_
      refine v_load_pt (.c _) lay2 rfl rfl rfl rfl ?_
      refine v_nil ?_
      refine d_q rfl rfl rfl rfl rfl ?_
      refine v_move rfl ?_
      refine v_nil ?_
      refine d_q rfl rfl rfl rfl rfl ?_
      refine v_nil_vw rfl ?_
      refine v_nil ?_
      refine d_q rfl rfl rfl rfl rfl ?_
      refine v_fa_vw (off' := 5) lay94 rfl rfl rfl ?_
      refine v_nil ?_
      refine d_q rfl rfl rfl rfl rfl ?_
      refine v_fa_vw (off' := 5) lay33 rfl rfl rfl ?_
      refine v_nil ?_
      refine d_q rfl rfl rfl rfl rfl ?_
      refine v_load_vw (.c (.v _)) lay2 rfl rfl rfl ?_
      refine v_nil ?_
      refine d_q rfl rfl rfl rfl rfl ?_
      refine v_geq lay2 rfl rfl (fun h28 => ?_) (fun h28 => ?_)
      · refine v_nil ?_
        refine d_q rfl rfl rfl rfl rfl ?_
        refine v_pick_f rfl rfl ?_
        refine v_nil ?_
        refine d_call (c88 _ _) rfl rfl rfl rfl rfl (.cons vw_v (.cons vw_v .nil)) ?_
        refine d_q rfl rfl rfl rfl rfl ?_
        refine v_assign rfl ?_
        refine v_nil ?_
        refine d_nil ?_
        refine q_n ?_
        refine w_ret (q_br (q_r ?_))
        refine r_r rfl ?_
        exact a_i (by rw [do_cd]; unfold cdB; rw [ha, Int.toNat_natCast]; grind [firstNZ])
      refine v_nil ?_
      refine d_q rfl rfl rfl rfl rfl ?_
      refine v_pick_f rfl rfl ?_
      refine v_nil ?_
      refine d_call (c88 _ _) rfl rfl rfl rfl rfl (.cons vw_v (.cons vw_v .nil)) ?_
      refine d_q rfl rfl rfl rfl rfl ?_
      refine v_assign rfl ?_
      refine v_nil ?_
      refine d_nil ?_
      refine q_n ?_
      refine w_ret (q_br (q_r ?_))
      refine r_r rfl ?_
      exact a_i (by rw [do_cd]; unfold cdB; rw [ha, Int.toNat_natCast]; grind [firstNZ])
    refine v_assign rfl ?_
    refine v_nil ?_
    refine q_n ?_
    refine w_f rfl ?_
    refine w_seq ?_
    refine w_reg rfl ?_
    refine v_eql lay2 rfl rfl (fun h29 => ?_) (fun h29 => ?_)
    · refine v_assign rfl ?_
      refine v_nil ?_
      refine q_n ?_
      refine w_t rfl ?_
      refine w_seq ?_
      refine w_reg rfl ?_
      refine v_move rfl ?_
      refine v_not false rfl rfl ?_
      refine v_call (c88 _ _) rfl rfl rfl (.cons vw_v (.cons vw_v .nil)) ?_
      refine v_move rfl ?_
      refine v_call (c88 _ _) rfl rfl rfl (.cons vw_v (.cons vw_v .nil)) ?_
      refine v_lit (flat int [_, _]) (H' := [_, _]) lay28 lay2 rfl rfl ⟨by decide, by decide⟩ rfl rfl ?_
      refine v_call (c87 [_, _] (Nat.le_of_ble_eq_true rfl)) rfl rfl rfl (.cons (vw_mu2 int_sc int_len rfl (by first | (simp; done) | (simp; omega))) .nil) ?_
      refine v_assign rfl ?_
      refine v_nil ?_
      refine q_n ?_
      refine w_ret (q_br (q_r ?_))
      refine r_r rfl ?_
      exact a_i (by rw [do_cd]; unfold cdB; rw [ha, Int.toNat_natCast]; grind [firstNZ])
    refine v_assign rfl ?_
    refine v_nil ?_
    refine q_n ?_
    refine w_f rfl ?_
    refine w_seq ?_
    refine w_seq ?_
    refine w_reg rfl ?_
    refine v_eql lay2 rfl rfl (fun h30 => ?_) (fun h30 => ?_)
    · refine v_assign rfl ?_
      refine v_nil ?_
      refine q_n ?_
      refine w_t rfl ?_
      refine w_skip ?_
      refine q_n ?_
      refine w_t rfl ?_
      refine w_seq ?_
      refine w_reg rfl ?_
      refine v_move rfl ?_
      refine v_not true rfl rfl ?_
      refine v_call (c88 _ _) rfl rfl rfl (.cons vw_v (.cons vw_v .nil)) ?_
      refine v_assign rfl ?_
      refine v_nil ?_
      refine q_n ?_
      refine w_ret (q_br (q_r ?_))
      refine r_r rfl ?_
      exact a_i (by rw [do_cd]; unfold cdB; rw [ha, Int.toNat_natCast]; grind [firstNZ])
    refine v_assign rfl ?_
    refine v_nil ?_
    refine q_n ?_
    refine w_f rfl ?_
    refine w_reg rfl ?_
    refine v_eql lay2 rfl rfl (fun h31 => ?_) (fun h31 => ?_)
    · refine v_assign rfl ?_
      refine v_nil ?_
      refine q_n ?_
      refine w_t rfl ?_
      refine w_seq ?_
      refine w_reg rfl ?_
      refine v_move rfl ?_
      refine v_not true rfl rfl ?_
      refine v_call (c88 _ _) rfl rfl rfl (.cons vw_v (.cons vw_v .nil)) ?_
      refine v_assign rfl ?_
      refine v_nil ?_
      refine q_n ?_
      refine w_ret (q_br (q_r ?_))
      refine r_r rfl ?_
      exact a_i (by rw [do_cd]; unfold cdB; rw [ha, Int.toNat_natCast]; grind [firstNZ])
    refine v_assign rfl ?_
    refine v_nil ?_
    refine q_n ?_
    refine w_f rfl ?_
    refine w_seq ?_
    refine w_reg rfl ?_
    refine v_eql lay2 rfl rfl (fun h32 => ?_) (fun h32 => ?_)
    rotate_left
    · refine v_assign rfl ?_
      refine v_nil ?_
      refine q_n ?_
      refine w_f rfl ?_
      refine w_skip ?_
      refine q_bn ?_
      refine q_n ?_
      refine w_seq ?_
      refine w_reg rfl ?_
      refine v_move rfl ?_
      refine v_not false rfl rfl ?_
      refine v_call (c88 _ _) rfl rfl rfl (.cons vw_v (.cons vw_v .nil)) ?_
      refine v_assign rfl ?_
      refine v_nil ?_
      refine q_n ?_
      refine w_ret ?_
      refine r_r rfl ?_
      exact a_i (by rw [do_cd]; unfold cdB; rw [ha, Int.toNat_natCast]; grind [firstNZ])
    refine v_assign rfl ?_
    refine v_nil ?_
    refine q_n ?_
    refine w_t rfl ?_
    refine w_seq ?_
    refine w_seq ?_
    refine w_reg rfl ?_
    refine v_move rfl ?_
    refine v_not true rfl rfl ?_
    refine v_nil ?_
    refine q_n ?_
    refine w_t rfl ?_
    refine w_seq ?_
    refine w_reg rfl ?_
    refine v_assign (c := .v (.int .i64 2)) rfl ?_
    refine v_nil ?_
    refine q_n ?_
    refine w_ret (q_r (q_br (q_r ?_)))
    refine r_r rfl ?_
    exact a_i (by rw [do_cd]; unfold cdB; rw [ha, Int.toNat_natCast]; grind [firstNZ])
  refine d_q rfl rfl rfl rfl rfl ?_
  refine v_move rfl ?_
  refine v_nil ?_
  refine d_q rfl rfl rfl rfl rfl ?_
  refine v_nil_vw rfl ?_
  refine v_nil ?_
  refine d_q rfl rfl rfl rfl rfl ?_
  refine v_fa_vw (off' := 0) lay94 rfl rfl rfl ?_
  refine v_nil ?_
  refine d_q rfl rfl rfl rfl rfl ?_
  refine v_fa_vw (off' := 4) lay64 rfl rfl rfl ?_
  refine v_nil ?_
  refine d_q rfl rfl rfl rfl rfl ?_
  refine v_load_vw (.c (_)) lay62 rfl rfl rfl ?_
  refine v_nil ?_
  refine d_q rfl rfl rfl rfl rfl ?_
  refine v_len_sl lay62 rfl ?_
  refine v_nil ?_
  refine d_q rfl rfl rfl rfl rfl ?_
  refine v_eql lay3 rfl rfl (fun h3 => ?_) (fun h3 => ?_)
  · refine v_nil ?_
    refine d_q rfl rfl rfl rfl rfl ?_
    refine v_assign rfl ?_
    refine v_nil ?_
    refine d_q rfl rfl rfl rfl rfl ?_
    refine v_assign rfl ?_
    refine v_nil ?_
    refine d_q rfl rfl rfl rfl rfl ?_
    refine v_assign rfl ?_
    refine v_nil ?_
    refine d_nil ?_
    refine q_n ?_
    refine w_seq ?_
    refine w_seq ?_
    refine w_reg rfl ?_
    refine v_fa_pt (off' := 0) lay25 rfl rfl rfl ?_
    refine v_load_pt (.c _) lay2 rfl rfl rfl rfl ?_
    refine v_nil ?_
    refine q_n ?_
    refine w_block ?_
    refine w_seq ?_
    refine w_reg rfl ?_
    refine v_eql lay2 rfl rfl (fun h4 => ?_) (fun h4 => ?_)
    · refine v_assign rfl ?_
      refine v_nil ?_
      refine q_n ?_
      refine w_t rfl ?_
      refine w_seq ?_
      refine w_draw [0, 1, 3, 7, 15, 7, 39, 103, 231, 487, 1023, 2047, 4095, 8191] [⟨0, 0, []⟩, ⟨1, 0, []⟩, ⟨2, 0, []⟩, ⟨3, 0, []⟩, ⟨4, 0, []⟩, ⟨5, 0, []⟩, ⟨6, 0, []⟩, ⟨7, 0, []⟩, ⟨8, 0, []⟩, ⟨9, 0, []⟩, ⟨10, 0, []⟩, ⟨11, 0, []⟩, ⟨12, 0, []⟩, ⟨13, 0, []⟩] rfl rfl ?_
      refine d_q rfl rfl rfl rfl rfl ?_
      refine v_move rfl ?_
      refine v_nil ?_
      refine d_q rfl rfl rfl rfl rfl ?_
      refine v_not false rfl rfl ?_
      refine v_nil ?_
      refine d_q rfl rfl rfl rfl rfl ?_
      refine v_move rfl ?_
      refine v_nil ?_
      refine d_q rfl rfl rfl rfl rfl ?_
      refine v_fa_pt (off' := 2) lay25 rfl rfl rfl ?_
      refine v_nil ?_
      refine d_q rfl rfl rfl rfl rfl ?_
      refine v_load_pt (.c _) lay2 rfl rfl rfl rfl ?_
      refine v_nil ?_
      refine d_q rfl rfl rfl rfl rfl ?_
      refine v_move rfl ?_
      refine v_nil ?_
      refine d_q rfl rfl rfl rfl rfl ?_
      refine v_nil_vw rfl ?_
      refine v_nil ?_
      refine d_q rfl rfl rfl rfl rfl ?_
      refine v_fa_vw (off' := 5) lay94 rfl rfl rfl ?_
      refine v_nil ?_
      refine d_q rfl rfl rfl rfl rfl ?_
      refine v_fa_vw (off' := 5) lay33 rfl rfl rfl ?_
      refine v_nil ?_
      refine d_q rfl rfl rfl rfl rfl ?_
      refine v_load_vw (.c (.v _)) lay2 rfl rfl rfl ?_
      refine v_nil ?_
      refine d_q rfl rfl rfl rfl rfl ?_
      refine v_geq lay2 rfl rfl (fun h5 => ?_) (fun h5 => ?_)
      · refine v_nil ?_
        refine d_q rfl rfl rfl rfl rfl ?_
        refine v_pick_f rfl rfl ?_
        refine v_nil ?_
        refine d_call (c88 _ _) rfl rfl rfl rfl rfl (.cons vw_v (.cons vw_v .nil)) ?_
        refine d_q rfl rfl rfl rfl rfl ?_
        refine v_assign rfl ?_
        refine v_nil ?_
        refine d_nil ?_
        refine q_n ?_
        refine w_ret (q_br (q_r ?_))
        refine r_r rfl ?_
        exact a_i (by rw [do_cd]; unfold cdB; rw [ha, Int.toNat_natCast]; grind [firstNZ])
      refine v_nil ?_
      refine d_q rfl rfl rfl rfl rfl ?_
      refine v_pick_f rfl rfl ?_
      refine v_nil ?_
      refine d_call (c88 _ _) rfl rfl rfl rfl rfl (.cons vw_v (.cons vw_v .nil)) ?_
      refine d_q rfl rfl rfl rfl rfl ?_
      refine v_assign rfl ?_
      refine v_nil ?_
      refine d_nil ?_
      refine q_n ?_
      refine w_ret (q_br (q_r ?_))
      refine r_r rfl ?_
      exact a_i (by rw [do_cd]; unfold cdB; rw [ha, Int.toNat_natCast]; grind [firstNZ])
    refine v_assign rfl ?_
    refine v_nil ?_
    refine q_n ?_
    refine w_f rfl ?_
    refine w_seq ?_
    refine w_reg rfl ?_
    refine v_eql lay2 rfl rfl (fun h6 => ?_) (fun h6 => ?_)
    · refine v_assign rfl ?_
      refine v_nil ?_
      refine q_n ?_
      refine w_t rfl ?_
      refine w_seq ?_
      refine w_reg rfl ?_
      refine v_move rfl ?_
      refine v_not false rfl rfl ?_
      refine v_call (c88 _ _) rfl rfl rfl (.cons vw_v (.cons vw_v .nil)) ?_
      refine v_move rfl ?_
      refine v_call (c88 _ _) rfl rfl rfl (.cons vw_v (.cons vw_v .nil)) ?_
      refine v_lit (flat int [_, _]) (H' := [_, _]) lay28 lay2 rfl rfl ⟨by decide, by decide⟩ rfl rfl ?_
      refine v_call (c87 [_, _] (Nat.le_of_ble_eq_true rfl)) rfl rfl rfl (.cons (vw_mu2 int_sc int_len rfl (by first | (simp; done) | (simp; omega))) .nil) ?_
      refine v_assign rfl ?_
      refine v_nil ?_
      refine q_n ?_
      refine w_ret (q_br (q_r ?_))
      refine r_r rfl ?_
      exact a_i (by rw [do_cd]; unfold cdB; rw [ha, Int.toNat_natCast]; grind [firstNZ])
    refine v_assign rfl ?_
    refine v_nil ?_
    refine q_n ?_
    refine w_f rfl ?_
    refine w_seq ?_
    refine w_seq ?_
    refine w_reg rfl ?_
    refine v_eql lay2 rfl rfl (fun h7 => ?_) (fun h7 => ?_)
    · refine v_assign rfl ?_
      refine v_nil ?_
      refine q_n ?_
      refine w_t rfl ?_
      refine w_skip ?_
      refine q_n ?_
      refine w_t rfl ?_
      refine w_seq ?_
      refine w_reg rfl ?_
      refine v_move rfl ?_
      refine v_not false rfl rfl ?_
      refine v_call (c88 _ _) rfl rfl rfl (.cons vw_v (.cons vw_v .nil)) ?_
      refine v_assign rfl ?_
      refine v_nil ?_
      refine q_n ?_
      refine w_ret (q_br (q_r ?_))
      refine r_r rfl ?_
      exact a_i (by rw [do_cd]; unfold cdB; rw [ha, Int.toNat_natCast]; grind [firstNZ])
    refine v_assign rfl ?_
    refine v_nil ?_
    refine q_n ?_
    refine w_f rfl ?_
    refine w_reg rfl ?_
    refine v_eql lay2 rfl rfl (fun h8 => ?_) (fun h8 => ?_)
    · refine v_assign rfl ?_
      refine v_nil ?_
      refine q_n ?_
      refine w_t rfl ?_
      refine w_seq ?_
      refine w_reg rfl ?_
      refine v_move rfl ?_
      refine v_not false rfl rfl ?_
      refine v_call (c88 _ _) rfl rfl rfl (.cons vw_v (.cons vw_v .nil)) ?_
      refine v_assign rfl ?_
      refine v_nil ?_
      refine q_n ?_
      refine w_ret (q_br (q_r ?_))
      refine r_r rfl ?_
      exact a_i (by rw [do_cd]; unfold cdB; rw [ha, Int.toNat_natCast]; grind [firstNZ])
    refine v_assign rfl ?_
    refine v_nil ?_
    refine q_n ?_
    refine w_f rfl ?_
    refine w_seq ?_
    refine w_reg rfl ?_
    refine v_eql lay2 rfl rfl (fun h9 => ?_) (fun h9 => ?_)
    rotate_left
    · refine v_assign rfl ?_
      refine v_nil ?_
      refine q_n ?_
      refine w_f rfl ?_
      refine w_skip ?_
      refine q_bn ?_
      refine q_n ?_
      refine w_seq ?_
      refine w_reg rfl ?_
      refine v_move rfl ?_
      refine v_not false rfl rfl ?_
      refine v_call (c88 _ _) rfl rfl rfl (.cons vw_v (.cons vw_v .nil)) ?_
      refine v_assign rfl ?_
      refine v_nil ?_
      refine q_n ?_
      refine w_ret ?_
      refine r_r rfl ?_
      exact a_i (by rw [do_cd]; unfold cdB; rw [ha, Int.toNat_natCast]; grind [firstNZ])
    refine v_assign rfl ?_
    refine v_nil ?_
    refine q_n ?_
    refine w_t rfl ?_
    refine w_seq ?_
    refine w_seq ?_
    refine w_reg rfl ?_
    refine v_move rfl ?_
    refine v_not false rfl rfl ?_
    refine v_nil ?_
    refine q_n ?_
    refine w_f rfl ?_
    refine w_skip ?_
    refine q_n ?_
    refine w_seq ?_
    refine w_draw [0, 1, 3, 7, 15, 0, 32, 127, 255, 511, 1023, 2047, 4095, 8191, 16383, 32767] [⟨0, 0, []⟩, ⟨1, 0, []⟩, ⟨2, 0, []⟩, ⟨3, 0, []⟩, ⟨4, 0, []⟩, ⟨5, 0, []⟩, ⟨6, 0, []⟩, ⟨7, 0, []⟩, ⟨8, 0, []⟩, ⟨9, 0, []⟩, ⟨10, 0, []⟩, ⟨11, 0, []⟩, ⟨12, 0, []⟩, ⟨13, 0, []⟩, ⟨14, 0, []⟩, ⟨15, 0, []⟩] rfl rfl ?_
    refine d_q rfl rfl rfl rfl rfl ?_
    refine v_move rfl ?_
    refine v_nil ?_
    refine d_q rfl rfl rfl rfl rfl ?_
    refine v_nil_vw rfl ?_
    refine v_nil ?_
    refine d_q rfl rfl rfl rfl rfl ?_
    refine v_fa_vw (off' := 0) lay94 rfl rfl rfl ?_
    refine v_nil ?_
    refine d_q rfl rfl rfl rfl rfl ?_
    refine v_fa_vw (off' := 4) lay64 rfl rfl rfl ?_
    refine v_nil ?_
    refine d_q rfl rfl rfl rfl rfl ?_
    refine v_load_vw (.c (_)) lay62 rfl rfl rfl ?_
    refine v_nil ?_
    refine d_q rfl rfl rfl rfl rfl ?_
    refine v_fa_pt (off' := 1) lay25 rfl rfl rfl ?_
    refine v_nil ?_
    refine d_q rfl rfl rfl rfl rfl ?_
    refine v_load_pt (.c _) lay2 rfl rfl rfl rfl ?_
    refine v_nil ?_
    refine d_q rfl rfl rfl rfl rfl ?_
    refine v_idx_e (k := 4) (a) nce_len lay62 lay101 rfl rfl rfl (rfl) rfl (ha) (by omega) ?_
    refine v_nil ?_
    refine d_q rfl rfl rfl rfl rfl ?_
    refine v_fa_vw (off' := 0) lay101 rfl rfl rfl ?_
    refine v_nil ?_
    refine d_q rfl rfl rfl rfl rfl ?_
    refine v_load_vwb lay4 rfl rfl rfl (fun h11 => ?_) (fun h11 => ?_)
    · refine v_nil ?_
      refine d_q rfl rfl rfl rfl rfl ?_
      refine v_not false rfl rfl ?_
      refine v_nil ?_
      refine d_q rfl rfl rfl rfl rfl ?_
      refine v_move rfl ?_
      refine v_nil ?_
      refine d_off rfl rfl ?_
      refine d_q rfl rfl rfl rfl rfl ?_
      refine v_pick_f (v := .v (.bool false)) rfl rfl ?_
      refine v_nil ?_
      refine d_call (c88 _ _) rfl rfl rfl rfl rfl (.cons vw_v (.cons vw_v .nil)) ?_
      refine d_q rfl rfl rfl rfl rfl ?_
      refine v_assign rfl ?_
      refine v_nil ?_
      refine d_nil ?_
      refine q_n ?_
      refine w_ret (q_br (q_r ?_))
      refine r_r rfl ?_
      exact a_i (by rw [do_cd]; unfold cdB; rw [ha, Int.toNat_natCast]; grind [firstNZ])
    refine v_nil ?_
    refine d_q rfl rfl rfl rfl rfl ?_
    refine v_not true rfl rfl ?_
    refine v_nil ?_
    refine d_q rfl rfl rfl rfl rfl ?_
    refine v_move rfl ?_
    refine v_nil ?_
    refine d_q rfl rfl rfl rfl rfl ?_
    refine v_move rfl ?_
    refine v_nil ?_
    refine d_q rfl rfl rfl rfl rfl ?_
    refine v_pick_t rfl rfl ?_
    refine v_nil ?_
    refine d_call (c88 _ _) rfl rfl rfl rfl rfl (.cons vw_v (.cons vw_v .nil)) ?_
    refine d_q rfl rfl rfl rfl rfl ?_
    refine v_assign rfl ?_
    refine v_nil ?_
    refine d_nil ?_
    refine q_n ?_
    refine w_ret (q_br (q_r ?_))
    refine r_r rfl ?_
    exact a_i (by rw [do_cd]; unfold cdB; rw [ha, Int.toNat_natCast]; grind [firstNZ])
  refine v_nil ?_
  refine d_q rfl rfl rfl rfl rfl ?_
  refine v_assign rfl ?_
  refine v_nil ?_
  refine d_q rfl rfl rfl rfl rfl ?_
  refine v_assign rfl ?_
  refine v_nil ?_
  refine d_q rfl rfl rfl rfl rfl ?_
  refine v_assign rfl ?_
  refine v_nil ?_
  refine d_nil ?_
  refine q_n ?_
  refine w_seq ?_
  refine w_seq ?_
  refine w_reg rfl ?_
  refine v_fa_pt (off' := 0) lay25 rfl rfl rfl ?_
  refine v_load_pt (.c _) lay2 rfl rfl rfl rfl ?_
  refine v_nil ?_
  refine q_n ?_
  refine w_block ?_
  refine w_seq ?_
  refine w_reg rfl ?_
  refine v_eql lay2 rfl rfl (fun h12 => ?_) (fun h12 => ?_)
  · refine v_assign rfl ?_
    refine v_nil ?_
    refine q_n ?_
    refine w_t rfl ?_
    refine w_seq ?_
    refine w_draw [0, 1, 3, 7, 15, 7, 39, 103, 231, 487, 1023, 2047, 4095, 8191] [⟨0, 0, []⟩, ⟨1, 0, []⟩, ⟨2, 0, []⟩, ⟨3, 0, []⟩, ⟨4, 0, []⟩, ⟨5, 0, []⟩, ⟨6, 0, []⟩, ⟨7, 0, []⟩, ⟨8, 0, []⟩, ⟨9, 0, []⟩, ⟨10, 0, []⟩, ⟨11, 0, []⟩, ⟨12, 0, []⟩, ⟨13, 0, []⟩] rfl rfl ?_
    refine d_q rfl rfl rfl rfl rfl ?_
    refine v_move rfl ?_
    refine v_nil ?_
    refine d_q rfl rfl rfl rfl rfl ?_
    refine v_not false rfl rfl ?_
    refine v_nil ?_
    refine d_q rfl rfl rfl rfl rfl ?_
    refine v_move rfl ?_
    refine v_nil ?_
    refine d_q rfl rfl rfl rfl rfl ?_
    refine v_fa_pt (off' := 2) lay25 rfl rfl rfl ?_
    refine v_nil ?_
    refine d_q rfl rfl rfl rfl rfl ?_
    refine v_load_pt (.c _) lay2 rfl rfl rfl rfl ?_
    refine v_nil ?_
    refine d_q rfl rfl rfl rfl rfl ?_
    refine v_move rfl ?_
    refine v_nil ?_
    refine d_q rfl rfl rfl rfl rfl ?_
    refine v_nil_vw rfl ?_
    refine v_nil ?_
    refine d_q rfl rfl rfl rfl rfl ?_
    refine v_fa_vw (off' := 5) lay94 rfl rfl rfl ?_
    refine v_nil ?_
    refine d_q rfl rfl rfl rfl rfl ?_
    refine v_fa_vw (off' := 5) lay33 rfl rfl rfl ?_
    refine v_nil ?_
    refine d_q rfl rfl rfl rfl rfl ?_
    refine v_load_vw (.c (.v _)) lay2 rfl rfl rfl ?_
    refine v_nil ?_
    refine d_q rfl rfl rfl rfl rfl ?_
    refine v_geq lay2 rfl rfl (fun h13 => ?_) (fun h13 => ?_)
    · refine v_nil ?_
      refine d_q rfl rfl rfl rfl rfl ?_
      refine v_pick_f rfl rfl ?_
      refine v_nil ?_
      refine d_call (c88 _ _) rfl rfl rfl rfl rfl (.cons vw_v (.cons vw_v .nil)) ?_
      refine d_q rfl rfl rfl rfl rfl ?_
      refine v_assign rfl ?_
      refine v_nil ?_
      refine d_nil ?_
      refine q_n ?_
      refine w_ret (q_br (q_r ?_))
      refine r_r rfl ?_
      exact a_i (by rw [do_cd]; unfold cdB; rw [ha, Int.toNat_natCast]; grind [firstNZ])
    refine v_nil ?_
    refine d_q rfl rfl rfl rfl rfl ?_
    refine v_pick_f rfl rfl ?_
    refine v_nil ?_
    refine d_call (c88 _ _) rfl rfl rfl rfl rfl (.cons vw_v (.cons vw_v .nil)) ?_
    refine d_q rfl rfl rfl rfl rfl ?_
    refine v_assign rfl ?_
    refine v_nil ?_
    refine d_nil ?_
    refine q_n ?_
    refine w_ret (q_br (q_r ?_))
    refine r_r rfl ?_
    exact a_i (by rw [do_cd]; unfold cdB; rw [ha, Int.toNat_natCast]; grind [firstNZ])
  refine v_assign rfl ?_
  refine v_nil ?_
  refine q_n ?_
  refine w_f rfl ?_
  refine w_seq ?_
  refine w_reg rfl ?_
  refine v_eql lay2 rfl rfl (fun h14 => ?_) (fun h14 => ?_)
  · refine v_assign rfl ?_
    refine v_nil ?_
    refine q_n ?_
    refine w_t rfl ?_
    refine w_seq ?_
    refine w_reg rfl ?_
    refine v_move rfl ?_
    refine v_not false rfl rfl ?_
    refine v_call (c88 _ _) rfl rfl rfl (.cons vw_v (.cons vw_v .nil)) ?_
    refine v_move rfl ?_
    refine v_call (c88 _ _) rfl rfl rfl (.cons vw_v (.cons vw_v .nil)) ?_
    refine v_lit (flat int [_, _]) (H' := [_, _]) lay28 lay2 rfl rfl ⟨by decide, by decide⟩ rfl rfl ?_
    refine v_call (c87 [_, _] (Nat.le_of_ble_eq_true rfl)) rfl rfl rfl (.cons (vw_mu2 int_sc int_len rfl (by first | (simp; done) | (simp; omega))) .nil) ?_
    refine v_assign rfl ?_
    refine v_nil ?_
    refine q_n ?_
    refine w_ret (q_br (q_r ?_))
    refine r_r rfl ?_
    exact a_i (by rw [do_cd]; unfold cdB; rw [ha, Int.toNat_natCast]; grind [firstNZ])
  refine v_assign rfl ?_
  refine v_nil ?_
  refine q_n ?_
  refine w_f rfl ?_
  refine w_seq ?_
  refine w_seq ?_
  refine w_reg rfl ?_
  refine v_eql lay2 rfl rfl (fun h15 => ?_) (fun h15 => ?_)
  · refine v_assign rfl ?_
    refine v_nil ?_
    refine q_n ?_
    refine w_t rfl ?_
    refine w_skip ?_
    refine q_n ?_
    refine w_t rfl ?_
    refine w_seq ?_
    refine w_reg rfl ?_
    refine v_move rfl ?_
    refine v_not false rfl rfl ?_
    refine v_call (c88 _ _) rfl rfl rfl (.cons vw_v (.cons vw_v .nil)) ?_
    refine v_assign rfl ?_
    refine v_nil ?_
    refine q_n ?_
    refine w_ret (q_br (q_r ?_))
    refine r_r rfl ?_
    exact a_i (by rw [do_cd]; unfold cdB; rw [ha, Int.toNat_natCast]; grind [firstNZ])
  refine v_assign rfl ?_
  refine v_nil ?_
  refine q_n ?_
  refine w_f rfl ?_
  refine w_reg rfl ?_
  refine v_eql lay2 rfl rfl (fun h16 => ?_) (fun h16 => ?_)
  · refine v_assign rfl ?_
    refine v_nil ?_
    refine q_n ?_
    refine w_t rfl ?_
    refine w_seq ?_
    refine w_reg rfl ?_
    refine v_move rfl ?_
    refine v_not false rfl rfl ?_
    refine v_call (c88 _ _) rfl rfl rfl (.cons vw_v (.cons vw_v .nil)) ?_
    refine v_assign rfl ?_
    refine v_nil ?_
    refine q_n ?_
    refine w_ret (q_br (q_r ?_))
    refine r_r rfl ?_
    exact a_i (by rw [do_cd]; unfold cdB; rw [ha, Int.toNat_natCast]; grind [firstNZ])
  refine v_assign rfl ?_
  refine v_nil ?_
  refine q_n ?_
  refine w_f rfl ?_
  refine w_seq ?_
  refine w_reg rfl ?_
  refine v_eql lay2 rfl rfl (fun h17 => ?_) (fun h17 => ?_)
  rotate_left
  · refine v_assign rfl ?_
    refine v_nil ?_
    refine q_n ?_
    refine w_f rfl ?_
    refine w_skip ?_
    refine q_bn ?_
    refine q_n ?_
    refine w_seq ?_
    refine w_reg rfl ?_
    refine v_move rfl ?_
    refine v_not false rfl rfl ?_
    refine v_call (c88 _ _) rfl rfl rfl (.cons vw_v (.cons vw_v .nil)) ?_
    refine v_assign rfl ?_
    refine v_nil ?_
    refine q_n ?_
    refine w_ret ?_
    refine r_r rfl ?_
    exact a_i (by rw [do_cd]; unfold cdB; rw [ha, Int.toNat_natCast]; grind [firstNZ])
  refine v_assign rfl ?_
  refine v_nil ?_
  refine q_n ?_
  refine w_t rfl ?_
  refine w_seq ?_
  refine w_seq ?_
  refine w_reg rfl ?_
  refine v_move rfl ?_
  refine v_not false rfl rfl ?_
  refine v_nil ?_
  refine q_n ?_
  refine w_f rfl ?_
  refine w_skip ?_
  refine q_n ?_
  refine w_seq ?_
  refine w_draw [0, 1, 3, 7, 15, 0, 32, 127, 255, 511, 1023, 2047, 4095, 8191, 16383, 32767] [⟨0, 0, []⟩, ⟨1, 0, []⟩, ⟨2, 0, []⟩, ⟨3, 0, []⟩, ⟨4, 0, []⟩, ⟨5, 0, []⟩, ⟨6, 0, []⟩, ⟨7, 0, []⟩, ⟨8, 0, []⟩, ⟨9, 0, []⟩, ⟨10, 0, []⟩, ⟨11, 0, []⟩, ⟨12, 0, []⟩, ⟨13, 0, []⟩, ⟨14, 0, []⟩, ⟨15, 0, []⟩] rfl rfl ?_
  refine d_q rfl rfl rfl rfl rfl ?_
  refine v_move rfl ?_
  refine v_nil ?_
  refine d_q rfl rfl rfl rfl rfl ?_
  refine v_nil_vw rfl ?_
  refine v_nil ?_
  refine d_q rfl rfl rfl rfl rfl ?_
  refine v_fa_vw (off' := 0) lay94 rfl rfl rfl ?_
  refine v_nil ?_
  refine d_q rfl rfl rfl rfl rfl ?_
  refine v_fa_vw (off' := 4) lay64 rfl rfl rfl ?_
  refine v_nil ?_
  refine d_q rfl rfl rfl rfl rfl ?_
  refine v_load_vw (.c (_)) lay62 rfl rfl rfl ?_
  refine v_nil ?_
  refine d_q rfl rfl rfl rfl rfl ?_
  refine v_fa_pt (off' := 1) lay25 rfl rfl rfl ?_
  refine v_nil ?_
  refine d_q rfl rfl rfl rfl rfl ?_
  refine v_load_pt (.c _) lay2 rfl rfl rfl rfl ?_
  refine v_nil ?_
  refine d_q rfl rfl rfl rfl rfl ?_
  refine v_idx_e (k := 4) (a) nce_len lay62 lay101 rfl rfl rfl (rfl) rfl (ha) (by omega) ?_
  refine v_nil ?_
  refine d_q rfl rfl rfl rfl rfl ?_
  refine v_fa_vw (off' := 0) lay101 rfl rfl rfl ?_
  refine v_nil ?_
  refine d_q rfl rfl rfl rfl rfl ?_
  refine v_load_vwb lay4 rfl rfl rfl (fun h19 => ?_) (fun h19 => ?_)
  · refine v_nil ?_
    refine d_q rfl rfl rfl rfl rfl ?_
    refine v_not false rfl rfl ?_
    refine v_nil ?_
    refine d_q rfl rfl rfl rfl rfl ?_
    refine v_move rfl ?_
    refine v_nil ?_
    refine d_off rfl rfl ?_
    refine d_q rfl rfl rfl rfl rfl ?_
    refine v_pick_f (v := .v (.bool false)) rfl rfl ?_
    refine v_nil ?_
    refine d_call (c88 _ _) rfl rfl rfl rfl rfl (.cons vw_v (.cons vw_v .nil)) ?_
    refine d_q rfl rfl rfl rfl rfl ?_
    refine v_assign rfl ?_
    refine v_nil ?_
    refine d_nil ?_
    refine q_n ?_
    refine w_ret (q_br (q_r ?_))
    refine r_r rfl ?_
    exact a_i (by rw [do_cd]; unfold cdB; rw [ha, Int.toNat_natCast]; grind [firstNZ])
  refine v_nil ?_
  refine d_q rfl rfl rfl rfl rfl ?_
  refine v_not true rfl rfl ?_
  refine v_nil ?_
  refine d_q rfl rfl rfl rfl rfl ?_
  refine v_move rfl ?_
  refine v_nil ?_
  refine d_q rfl rfl rfl rfl rfl ?_
  refine v_move rfl ?_
  refine v_nil ?_
  refine d_q rfl rfl rfl rfl rfl ?_
  refine v_pick_t rfl rfl ?_
  refine v_nil ?_
  refine d_call (c88 _ _) rfl rfl rfl rfl rfl (.cons vw_v (.cons vw_v .nil)) ?_
  refine d_q rfl rfl rfl rfl rfl ?_
  refine v_assign rfl ?_
  refine v_nil ?_
  refine d_nil ?_
  refine q_n ?_
  refine w_ret (q_br (q_r ?_))
  refine r_r rfl ?_
  exact a_i (by rw [do_cd]; unfold cdB; rw [ha, Int.toNat_natCast]; grind [firstNZ])
end Go.VL
