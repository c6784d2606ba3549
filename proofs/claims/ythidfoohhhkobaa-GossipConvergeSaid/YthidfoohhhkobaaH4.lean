import Derived.Test.YthidfoohhhkobaaH1
import Derived.Test.YthidfoohhhkobaaProg
import Derived.Test.YthidfoohhhkobaaH2
import Derived.Test.YthidfoohhhkobaaH3
import Derived.WalkKit
import Derived.WalkLawsBesides
import Derived.WalkSpells
import Derived.Lib.Hide
import Derived.Deep.QuietTactic
import Derived.BigQuiet
import Derived.Deep.LoopGhost
import Derived.Deep.DeepCutAuto
import Derived.Deep.DeepFit
import Derived.Deep.Light
import Derived.Maps.Range
import Derived.Maps.AppendAt
import Derived.StillTailTactics
import Derived.Lib.AppendStr
import Derived.Deep.AppendLies
import Derived.Deep.RegionHeld3
import Derived.Deep.DrawnRows
namespace Go.Proofs.Ythidfoohhhkobaa
def T : Tab := [
  (1, ⟨.oth, 1, .nilFunc, 8⟩),
  (2, ⟨.int .i64, 1, .int .i64 0, 8⟩),
  (3, ⟨.int .i64, 1, .int .i64 0, 8⟩),
  (4, ⟨.bool, 1, .bool false, 1⟩),
  (5, ⟨.int .u8, 1, .int .u8 0, 1⟩),
  (9, ⟨.str, 1, .string ⟨#[]⟩, 16⟩),
  (12, ⟨.int .u64, 1, .int .u64 0, 8⟩),
  (13, ⟨.struct [(0, 1), (1, 1)], 2, .agg #[.string ⟨#[]⟩, .int .u64 0], 24⟩),
  (21, ⟨.int .i32, 1, .int .i32 0, 4⟩),
  (22, ⟨.slice 52, 1, .slice none 0 0, 24⟩),
  (23, ⟨.slice 5, 1, .slice none 0 0, 24⟩),
  (24, ⟨.oth, 1, .nilFunc, 8⟩),
  (25, ⟨.slice 55, 1, .slice none 0 0, 24⟩),
  (26, ⟨.slice 63, 1, .slice none 0 0, 24⟩),
  (27, ⟨.slice 93, 1, .slice none 0 0, 24⟩),
  (28, ⟨.struct [(0, 1), (1, 1)], 2, .agg #[.slice none 0 0, .slice none 0 0], 48⟩),
  (29, ⟨.struct [(0, 1), (1, 1)], 2, .agg #[.slice none 0 0, .slice none 0 0], 48⟩),
  (30, ⟨.struct [(0, 1), (1, 2)], 3, .agg #[.slice none 0 0, .slice none 0 0, .slice none 0 0], 72⟩),
  (31, ⟨.struct [(0, 1), (1, 2)], 3, .agg #[.slice none 0 0, .slice none 0 0, .slice none 0 0], 72⟩),
  (32, ⟨.slice 46, 1, .slice none 0 0, 24⟩),
  (34, ⟨.oth, 1, .nilFunc, 8⟩),
  (36, ⟨.oth, 1, .nilFunc, 8⟩),
  (37, ⟨.oth, 1, .nilFunc, 8⟩),
  (38, ⟨.oth, 1, .nilFunc, 8⟩),
  (39, ⟨.struct [(0, 1), (1, 1), (2, 1)], 3, .agg #[.int .i64 0, .int .i64 0, .int .i64 0], 24⟩),
  (40, ⟨.struct [(0, 1), (1, 1), (2, 1)], 3, .agg #[.int .i64 0, .int .i64 0, .int .i64 0], 24⟩),
  (41, ⟨.arr 32 5, 32, .agg #[.int .u8 0, .int .u8 0, .int .u8 0, .int .u8 0, .int .u8 0, .int .u8 0, .int .u8 0, .int .u8 0, .int .u8 0, .int .u8 0, .int .u8 0, .int .u8 0, .int .u8 0, .int .u8 0, .int .u8 0, .int .u8 0, .int .u8 0, .int .u8 0, .int .u8 0, .int .u8 0, .int .u8 0, .int .u8 0, .int .u8 0, .int .u8 0, .int .u8 0, .int .u8 0, .int .u8 0, .int .u8 0, .int .u8 0, .int .u8 0, .int .u8 0, .int .u8 0], 32⟩),
  (42, ⟨.arr 32 5, 32, .agg #[.int .u8 0, .int .u8 0, .int .u8 0, .int .u8 0, .int .u8 0, .int .u8 0, .int .u8 0, .int .u8 0, .int .u8 0, .int .u8 0, .int .u8 0, .int .u8 0, .int .u8 0, .int .u8 0, .int .u8 0, .int .u8 0, .int .u8 0, .int .u8 0, .int .u8 0, .int .u8 0, .int .u8 0, .int .u8 0, .int .u8 0, .int .u8 0, .int .u8 0, .int .u8 0, .int .u8 0, .int .u8 0, .int .u8 0, .int .u8 0, .int .u8 0, .int .u8 0], 32⟩),
  (43, ⟨.struct [(0, 1), (1, 1)], 2, .agg #[.int .i64 0, .int .i64 0], 16⟩),
  (44, ⟨.struct [(0, 1), (1, 1)], 2, .agg #[.int .i64 0, .int .i64 0], 16⟩),
  (45, ⟨.struct [(0, 3), (3, 1), (4, 1), (5, 1), (6, 1), (7, 32), (39, 1), (40, 2)], 42, .agg #[.int .i64 0, .int .i64 0, .int .i64 0, .int .i64 0, .int .i64 0, .int .i64 0, .int .i64 0, .int .u8 0, .int .u8 0, .int .u8 0, .int .u8 0, .int .u8 0, .int .u8 0, .int .u8 0, .int .u8 0, .int .u8 0, .int .u8 0, .int .u8 0, .int .u8 0, .int .u8 0, .int .u8 0, .int .u8 0, .int .u8 0, .int .u8 0, .int .u8 0, .int .u8 0, .int .u8 0, .int .u8 0, .int .u8 0, .int .u8 0, .int .u8 0, .int .u8 0, .int .u8 0, .int .u8 0, .int .u8 0, .int .u8 0, .int .u8 0, .int .u8 0, .int .u8 0, .int .i64 0, .int .i64 0, .int .i64 0], 112⟩),
  (46, ⟨.struct [(0, 3), (3, 1), (4, 1), (5, 1), (6, 1), (7, 32), (39, 1), (40, 2)], 42, .agg #[.int .i64 0, .int .i64 0, .int .i64 0, .int .i64 0, .int .i64 0, .int .i64 0, .int .i64 0, .int .u8 0, .int .u8 0, .int .u8 0, .int .u8 0, .int .u8 0, .int .u8 0, .int .u8 0, .int .u8 0, .int .u8 0, .int .u8 0, .int .u8 0, .int .u8 0, .int .u8 0, .int .u8 0, .int .u8 0, .int .u8 0, .int .u8 0, .int .u8 0, .int .u8 0, .int .u8 0, .int .u8 0, .int .u8 0, .int .u8 0, .int .u8 0, .int .u8 0, .int .u8 0, .int .u8 0, .int .u8 0, .int .u8 0, .int .u8 0, .int .u8 0, .int .u8 0, .int .i64 0, .int .i64 0, .int .i64 0], 112⟩),
  (47, ⟨.oth, 1, .nilFunc, 8⟩),
  (48, ⟨.int .i64, 1, .int .i64 0, 8⟩),
  (50, ⟨.oth, 1, .nilFunc, 8⟩),
  (51, ⟨.struct [(0, 1), (1, 1), (2, 1), (3, 1), (4, 42)], 46, .agg #[.int .i64 0, .int .i64 0, .int .i64 0, .int .i64 0, .int .i64 0, .int .i64 0, .int .i64 0, .int .i64 0, .int .i64 0, .int .i64 0, .int .i64 0, .int .u8 0, .int .u8 0, .int .u8 0, .int .u8 0, .int .u8 0, .int .u8 0, .int .u8 0, .int .u8 0, .int .u8 0, .int .u8 0, .int .u8 0, .int .u8 0, .int .u8 0, .int .u8 0, .int .u8 0, .int .u8 0, .int .u8 0, .int .u8 0, .int .u8 0, .int .u8 0, .int .u8 0, .int .u8 0, .int .u8 0, .int .u8 0, .int .u8 0, .int .u8 0, .int .u8 0, .int .u8 0, .int .u8 0, .int .u8 0, .int .u8 0, .int .u8 0, .int .i64 0, .int .i64 0, .int .i64 0], 144⟩),
  (52, ⟨.struct [(0, 1), (1, 1), (2, 1), (3, 1), (4, 42)], 46, .agg #[.int .i64 0, .int .i64 0, .int .i64 0, .int .i64 0, .int .i64 0, .int .i64 0, .int .i64 0, .int .i64 0, .int .i64 0, .int .i64 0, .int .i64 0, .int .u8 0, .int .u8 0, .int .u8 0, .int .u8 0, .int .u8 0, .int .u8 0, .int .u8 0, .int .u8 0, .int .u8 0, .int .u8 0, .int .u8 0, .int .u8 0, .int .u8 0, .int .u8 0, .int .u8 0, .int .u8 0, .int .u8 0, .int .u8 0, .int .u8 0, .int .u8 0, .int .u8 0, .int .u8 0, .int .u8 0, .int .u8 0, .int .u8 0, .int .u8 0, .int .u8 0, .int .u8 0, .int .u8 0, .int .u8 0, .int .u8 0, .int .u8 0, .int .i64 0, .int .i64 0, .int .i64 0], 144⟩),
  (53, ⟨.oth, 1, .nilFunc, 8⟩),
  (54, ⟨.struct [(0, 1)], 1, .agg #[.slice none 0 0], 24⟩),
  (55, ⟨.struct [(0, 1)], 1, .agg #[.slice none 0 0], 24⟩),
  (56, ⟨.oth, 1, .nilFunc, 8⟩),
  (57, ⟨.oth, 1, .nilFunc, 8⟩),
  (58, ⟨.oth, 1, .nilFunc, 8⟩),
  (59, ⟨.oth, 1, .nilFunc, 8⟩),
  (60, ⟨.oth, 1, .nilFunc, 8⟩),
  (61, ⟨.oth, 1, .nilFunc, 8⟩),
  (62, ⟨.struct [(0, 1), (1, 1), (2, 1)], 3, .agg #[.int .i64 0, .int .i64 0, .slice none 0 0], 40⟩),
  (63, ⟨.struct [(0, 1), (1, 1), (2, 1)], 3, .agg #[.int .i64 0, .int .i64 0, .slice none 0 0], 40⟩),
  (64, ⟨.oth, 1, .nilFunc, 8⟩),
  (66, ⟨.oth, 1, .nilFunc, 8⟩),
  (67, ⟨.oth, 1, .nilFunc, 8⟩),
  (68, ⟨.oth, 1, .nilFunc, 8⟩),
  (69, ⟨.oth, 1, .nilFunc, 8⟩),
  (71, ⟨.oth, 1, .nilFunc, 8⟩),
  (72, ⟨.oth, 1, .pointer none, 8⟩),
  (73, ⟨.map 3 69, 1, .map none, 8⟩),
  (74, ⟨.struct [(0, 3)], 3, .agg #[.slice none 0 0, .slice none 0 0, .slice none 0 0], 72⟩),
  (75, ⟨.struct [(0, 3)], 3, .agg #[.slice none 0 0, .slice none 0 0, .slice none 0 0], 72⟩),
  (76, ⟨.oth, 1, .nilFunc, 8⟩),
  (77, ⟨.oth, 1, .nilFunc, 8⟩),
  (78, ⟨.oth, 1, .nilFunc, 8⟩),
  (79, ⟨.oth, 1, .nilFunc, 8⟩),
  (81, ⟨.oth, 1, .nilFunc, 8⟩),
  (82, ⟨.slice 85, 1, .slice none 0 0, 24⟩),
  (83, ⟨.slice 3, 1, .slice none 0 0, 24⟩),
  (84, ⟨.struct [(0, 1), (1, 1), (2, 1), (3, 1)], 4, .agg #[.int .i64 0, .int .i64 0, .string ⟨#[]⟩, .slice none 0 0], 56⟩),
  (85, ⟨.struct [(0, 1), (1, 1), (2, 1), (3, 1)], 4, .agg #[.int .i64 0, .int .i64 0, .string ⟨#[]⟩, .slice none 0 0], 56⟩),
  (86, ⟨.oth, 1, .nilFunc, 8⟩),
  (87, ⟨.oth, 1, .nilFunc, 8⟩),
  (89, ⟨.oth, 1, .nilFunc, 8⟩),
  (90, ⟨.oth, 1, .nilFunc, 8⟩),
  (91, ⟨.oth, 1, .nilFunc, 8⟩),
  (92, ⟨.oth, 1, .nilFunc, 8⟩),
  (93, ⟨.arr 2 3, 2, .agg #[.int .i64 0, .int .i64 0], 16⟩),
  (94, ⟨.oth, 1, .nilFunc, 8⟩),
  (95, ⟨.oth, 1, .nilFunc, 8⟩),
  (96, ⟨.oth, 1, .nilFunc, 8⟩),
  (97, ⟨.oth, 1, .nilFunc, 8⟩),
  (98, ⟨.oth, 1, .nilFunc, 8⟩),
  (99, ⟨.oth, 1, .nilFunc, 8⟩),
  (100, ⟨.oth, 1, .nilFunc, 8⟩),
  (102, ⟨.oth, 1, .nilFunc, 8⟩),
  (104, ⟨.oth, 1, .nilFunc, 8⟩),
  (105, ⟨.oth, 1, .nilFunc, 8⟩),
  (106, ⟨.arr 2 3, 2, .agg #[.int .i64 0, .int .i64 0], 16⟩),
  (107, ⟨.oth, 1, .nilFunc, 8⟩),
  (108, ⟨.oth, 1, .nilFunc, 8⟩),
  (110, ⟨.oth, 1, .nilFunc, 8⟩),
  (111, ⟨.oth, 1, .pointer none, 8⟩),
  (112, ⟨.arr 11 111, 11, .agg #[.pointer none, .pointer none, .pointer none, .pointer none, .pointer none, .pointer none, .pointer none, .pointer none, .pointer none, .pointer none, .pointer none], 88⟩),
  (113, ⟨.oth, 1, .nilFunc, 8⟩),
  (114, ⟨.oth, 1, .pointer none, 8⟩),
  (115, ⟨.oth, 1, .nilFunc, 8⟩),
  (116, ⟨.oth, 1, .nilFunc, 8⟩),
  (117, ⟨.oth, 1, .pointer none, 8⟩),
  (119, ⟨.oth, 1, .nilFunc, 8⟩),
  (120, ⟨.oth, 1, .nilFunc, 8⟩),
  (121, ⟨.oth, 1, .nilFunc, 8⟩),
  (122, ⟨.oth, 1, .nilFunc, 8⟩),
  (123, ⟨.oth, 1, .nilFunc, 8⟩),
  (125, ⟨.oth, 1, .nilFunc, 8⟩),
  (126, ⟨.oth, 1, .nilFunc, 8⟩),
  (127, ⟨.oth, 1, .nilFunc, 8⟩),
  (128, ⟨.oth, 1, .nilFunc, 8⟩),
  (129, ⟨.oth, 1, .nilFunc, 8⟩),
  (130, ⟨.oth, 1, .nilFunc, 8⟩),
  (131, ⟨.oth, 1, .nilFunc, 8⟩),
  (132, ⟨.oth, 1, .pointer none, 8⟩),
  (133, ⟨.struct [(0, 1)], 1, .agg #[.slice none 0 0], 24⟩),
  (134, ⟨.struct [(0, 1)], 1, .agg #[.slice none 0 0], 24⟩),
  (135, ⟨.oth, 1, .nilFunc, 8⟩),
  (136, ⟨.oth, 1, .nilFunc, 8⟩),
  (137, ⟨.oth, 1, .nilFunc, 8⟩),
  (138, ⟨.oth, 1, .nilFunc, 8⟩),
  (139, ⟨.int .u64, 1, .int .u64 0, 8⟩),
  (140, ⟨.oth, 1, .nilFunc, 8⟩),
  (141, ⟨.struct [(0, 3), (3, 1), (4, 1)], 5, .agg #[.int .i64 0, .int .i64 0, .int .i64 0, .int .i64 0, .int .i64 0], 40⟩),
  (142, ⟨.struct [(0, 3), (3, 1), (4, 1)], 5, .agg #[.int .i64 0, .int .i64 0, .int .i64 0, .int .i64 0, .int .i64 0], 40⟩),
  (143, ⟨.oth, 1, .nilFunc, 8⟩),
  (144, ⟨.int .u64, 1, .int .u64 0, 8⟩),
  (145, ⟨.oth, 1, .nilFunc, 8⟩),
  (146, ⟨.oth, 1, .nilFunc, 8⟩),
  (147, ⟨.struct [(0, 1)], 1, .agg #[.nilFunc], 8⟩),
  (148, ⟨.struct [(0, 1)], 1, .agg #[.nilFunc], 8⟩),
  (149, ⟨.oth, 1, .pointer none, 8⟩),
  (150, ⟨.oth, 1, .nilFunc, 8⟩),
  (151, ⟨.oth, 1, .nilFunc, 8⟩),
  (152, ⟨.oth, 1, .nilFunc, 8⟩),
  (153, ⟨.oth, 1, .nilFunc, 8⟩),
  (154, ⟨.oth, 1, .nilFunc, 8⟩),
  (155, ⟨.oth, 1, .nilFunc, 8⟩),
  (156, ⟨.oth, 1, .nilFunc, 8⟩),
  (157, ⟨.oth, 1, .nilFunc, 8⟩),
  (158, ⟨.arr 4 148, 4, .agg #[.nilFunc, .nilFunc, .nilFunc, .nilFunc], 32⟩),
  (159, ⟨.arr 4 148, 4, .agg #[.nilFunc, .nilFunc, .nilFunc, .nilFunc], 32⟩),
  (160, ⟨.oth, 1, .nilFunc, 8⟩),
  (161, ⟨.oth, 1, .nilFunc, 8⟩),
  (162, ⟨.arr 4 4, 4, .agg #[.bool false, .bool false, .bool false, .bool false], 4⟩),
  (163, ⟨.oth, 1, .nilFunc, 8⟩),
  (169, ⟨.int .u32, 1, .int .u32 0, 4⟩),
  (172, ⟨.oth, 1, .nilFunc, 8⟩),
  (173, ⟨.oth, 1, .pointer none, 8⟩)]
theorem T_ok : TabOk Try.prog T := by
  refine ⟨?_, ?_, ?_, ?_, ?_, ?_, ?_, ?_, ?_, ?_, ?_, ?_, ?_, ?_, ?_, ?_, ?_, ?_, ?_, ?_, ?_, ?_, ?_, ?_, ?_, ?_, ?_, ?_, ?_, ?_, ?_, ?_, ?_, ?_, ?_, ?_, ?_, ?_, ?_, ?_, ?_, ?_, ?_, ?_, ?_, ?_, ?_, ?_, ?_, ?_, ?_, ?_, ?_, ?_, ?_, ?_, ?_, ?_, ?_, ?_, ?_, ?_, ?_, ?_, ?_, ?_, ?_, ?_, ?_, ?_, ?_, ?_, ?_, ?_, ?_, ?_, ?_, ?_, ?_, ?_, ?_, ?_, ?_, ?_, ?_, ?_, ?_, ?_, ?_, ?_, ?_, ?_, ?_, ?_, ?_, ?_, ?_, ?_, ?_, ?_, ?_, ?_, ?_, ?_, ?_, ?_, ?_, ?_, ?_, ?_, ?_, ?_, ?_, ?_, ?_, ?_, ?_, ?_, ?_, ?_, ?_, ?_, ?_, ?_, ?_, ?_, ?_, ?_, ?_, ?_, ?_, ?_, ?_, ?_, ?_, ?_, ?_, ?_, ?_, ?_, ?_, ?_, trivial⟩ <;> exact ⟨by kernel_rfl, by simp only [kdOk]; kernel_rfl⟩
theorem ty_3 : ty T 3 = some ⟨.int .i64, 1, .int .i64 0, 8⟩ := by kernel_rfl
theorem ty_4 : ty T 4 = some ⟨.bool, 1, .bool false, 1⟩ := by kernel_rfl
theorem ty_5 : ty T 5 = some ⟨.int .u8, 1, .int .u8 0, 1⟩ := by kernel_rfl
theorem ty_9 : ty T 9 = some ⟨.str, 1, .string ⟨#[]⟩, 16⟩ := by kernel_rfl
theorem ty_22 : ty T 22 = some ⟨.slice 52, 1, .slice none 0 0, 24⟩ := by kernel_rfl
theorem ty_23 : ty T 23 = some ⟨.slice 5, 1, .slice none 0 0, 24⟩ := by kernel_rfl
theorem ty_25 : ty T 25 = some ⟨.slice 55, 1, .slice none 0 0, 24⟩ := by kernel_rfl
theorem ty_26 : ty T 26 = some ⟨.slice 63, 1, .slice none 0 0, 24⟩ := by kernel_rfl
theorem ty_27 : ty T 27 = some ⟨.slice 93, 1, .slice none 0 0, 24⟩ := by kernel_rfl
theorem ty_29 : ty T 29 = some ⟨.struct [(0, 1), (1, 1)], 2, .agg #[.slice none 0 0, .slice none 0 0], 48⟩ := by kernel_rfl
theorem ty_31 : ty T 31 = some ⟨.struct [(0, 1), (1, 2)], 3, .agg #[.slice none 0 0, .slice none 0 0, .slice none 0 0], 72⟩ := by kernel_rfl
theorem ty_32 : ty T 32 = some ⟨.slice 46, 1, .slice none 0 0, 24⟩ := by kernel_rfl
theorem ty_40 : ty T 40 = some ⟨.struct [(0, 1), (1, 1), (2, 1)], 3, .agg #[.int .i64 0, .int .i64 0, .int .i64 0], 24⟩ := by kernel_rfl
theorem ty_42 : ty T 42 = some ⟨.arr 32 5, 32, .agg #[.int .u8 0, .int .u8 0, .int .u8 0, .int .u8 0, .int .u8 0, .int .u8 0, .int .u8 0, .int .u8 0, .int .u8 0, .int .u8 0, .int .u8 0, .int .u8 0, .int .u8 0, .int .u8 0, .int .u8 0, .int .u8 0, .int .u8 0, .int .u8 0, .int .u8 0, .int .u8 0, .int .u8 0, .int .u8 0, .int .u8 0, .int .u8 0, .int .u8 0, .int .u8 0, .int .u8 0, .int .u8 0, .int .u8 0, .int .u8 0, .int .u8 0, .int .u8 0], 32⟩ := by kernel_rfl
theorem ty_44 : ty T 44 = some ⟨.struct [(0, 1), (1, 1)], 2, .agg #[.int .i64 0, .int .i64 0], 16⟩ := by kernel_rfl
theorem ty_46 : ty T 46 = some ⟨.struct [(0, 3), (3, 1), (4, 1), (5, 1), (6, 1), (7, 32), (39, 1), (40, 2)], 42, .agg #[.int .i64 0, .int .i64 0, .int .i64 0, .int .i64 0, .int .i64 0, .int .i64 0, .int .i64 0, .int .u8 0, .int .u8 0, .int .u8 0, .int .u8 0, .int .u8 0, .int .u8 0, .int .u8 0, .int .u8 0, .int .u8 0, .int .u8 0, .int .u8 0, .int .u8 0, .int .u8 0, .int .u8 0, .int .u8 0, .int .u8 0, .int .u8 0, .int .u8 0, .int .u8 0, .int .u8 0, .int .u8 0, .int .u8 0, .int .u8 0, .int .u8 0, .int .u8 0, .int .u8 0, .int .u8 0, .int .u8 0, .int .u8 0, .int .u8 0, .int .u8 0, .int .u8 0, .int .i64 0, .int .i64 0, .int .i64 0], 112⟩ := by kernel_rfl
theorem ty_48 : ty T 48 = some ⟨.int .i64, 1, .int .i64 0, 8⟩ := by kernel_rfl
theorem ty_52 : ty T 52 = some ⟨.struct [(0, 1), (1, 1), (2, 1), (3, 1), (4, 42)], 46, .agg #[.int .i64 0, .int .i64 0, .int .i64 0, .int .i64 0, .int .i64 0, .int .i64 0, .int .i64 0, .int .i64 0, .int .i64 0, .int .i64 0, .int .i64 0, .int .u8 0, .int .u8 0, .int .u8 0, .int .u8 0, .int .u8 0, .int .u8 0, .int .u8 0, .int .u8 0, .int .u8 0, .int .u8 0, .int .u8 0, .int .u8 0, .int .u8 0, .int .u8 0, .int .u8 0, .int .u8 0, .int .u8 0, .int .u8 0, .int .u8 0, .int .u8 0, .int .u8 0, .int .u8 0, .int .u8 0, .int .u8 0, .int .u8 0, .int .u8 0, .int .u8 0, .int .u8 0, .int .u8 0, .int .u8 0, .int .u8 0, .int .u8 0, .int .i64 0, .int .i64 0, .int .i64 0], 144⟩ := by kernel_rfl
theorem ty_55 : ty T 55 = some ⟨.struct [(0, 1)], 1, .agg #[.slice none 0 0], 24⟩ := by kernel_rfl
theorem ty_63 : ty T 63 = some ⟨.struct [(0, 1), (1, 1), (2, 1)], 3, .agg #[.int .i64 0, .int .i64 0, .slice none 0 0], 40⟩ := by kernel_rfl
theorem ty_69 : ty T 69 = some ⟨.oth, 1, .nilFunc, 8⟩ := by kernel_rfl
theorem ty_72 : ty T 72 = some ⟨.oth, 1, .pointer none, 8⟩ := by kernel_rfl
theorem ty_73 : ty T 73 = some ⟨.map 3 69, 1, .map none, 8⟩ := by kernel_rfl
theorem ty_75 : ty T 75 = some ⟨.struct [(0, 3)], 3, .agg #[.slice none 0 0, .slice none 0 0, .slice none 0 0], 72⟩ := by kernel_rfl
theorem ty_82 : ty T 82 = some ⟨.slice 85, 1, .slice none 0 0, 24⟩ := by kernel_rfl
theorem ty_83 : ty T 83 = some ⟨.slice 3, 1, .slice none 0 0, 24⟩ := by kernel_rfl
theorem ty_85 : ty T 85 = some ⟨.struct [(0, 1), (1, 1), (2, 1), (3, 1)], 4, .agg #[.int .i64 0, .int .i64 0, .string ⟨#[]⟩, .slice none 0 0], 56⟩ := by kernel_rfl
theorem ty_93 : ty T 93 = some ⟨.arr 2 3, 2, .agg #[.int .i64 0, .int .i64 0], 16⟩ := by kernel_rfl
theorem ty_106 : ty T 106 = some ⟨.arr 2 3, 2, .agg #[.int .i64 0, .int .i64 0], 16⟩ := by kernel_rfl
theorem ty_111 : ty T 111 = some ⟨.oth, 1, .pointer none, 8⟩ := by kernel_rfl
theorem ty_112 : ty T 112 = some ⟨.arr 11 111, 11, .agg #[.pointer none, .pointer none, .pointer none, .pointer none, .pointer none, .pointer none, .pointer none, .pointer none, .pointer none, .pointer none, .pointer none], 88⟩ := by kernel_rfl
theorem ty_142 : ty T 142 = some ⟨.struct [(0, 3), (3, 1), (4, 1)], 5, .agg #[.int .i64 0, .int .i64 0, .int .i64 0, .int .i64 0, .int .i64 0], 40⟩ := by kernel_rfl
theorem ty_144 : ty T 144 = some ⟨.int .u64, 1, .int .u64 0, 8⟩ := by kernel_rfl

set_option linter.unusedSimpArgs false
set_option linter.unusedVariables false
open Go.RowKit
theorem keyOk_int_ : KeyOk Try.prog 3 .i := keyOk_int Try.underlying3

structure Hd where
  line : Int
  at_ : Int
  arr : Int
  leg : Int
  frm : Int
  to_ : Int
  many : Int
  root : Vector UInt8 32
  time : Int
  se : Int
  ss : Int
  deriving DecidableEq
instance : Inhabited Hd := ⟨⟨0, 0, 0, 0, 0, 0, 0, Vector.replicate 32 0, 0, 0, 0⟩⟩
abbrev cI (n : Int) : D := .c (.int .i64 n)
def rootD (r : List UInt8) : List D := r.map fun b => .c (.int .u8 b.toNat)
def tailD (h : Hd) : List D := [cI h.time, cI h.se, cI h.ss]
def handD (h : Hd) : List D := cI h.line :: cI h.at_ :: cI h.arr :: cI h.leg :: cI h.frm :: cI h.to_ :: cI h.many :: (rootD h.root.toList ++ tailD h)
theorem rootD_ln (r : List UInt8) : (rootD r).length = r.length := by simp [rootD]
theorem hd_ln (h : Hd) : (handD h).length = 42 := by simp [handD, tailD, rootD_ln]
theorem dV_len (l : List D) : (dV l).length = l.length := by simp [dV]
theorem hd_sz (h : Hd) : (dV (handD h)).length = 42 := by rw [dV_len, hd_ln]
theorem hd_take (h : Hd) : (dV (handD h)).take 42 = dV (handD h) := by rw [List.take_of_length_le]; rw [hd_sz]; exact Nat.le_refl _
theorem hd_takeD (h : Hd) : (handD h).take 42 = handD h := by rw [List.take_of_length_le]; rw [hd_ln]; exact Nat.le_refl _
theorem hd_t3 (h : Hd) : (dV (handD h)).take 3 = [vI h.line, vI h.at_, vI h.arr] := rfl
theorem hd_h0 (h : Hd) : (dV (handD h)).head? = some (vI h.line) := rfl
theorem hd_h1 (h : Hd) : ((dV (handD h)).drop 1).head? = some (vI h.at_) := rfl
theorem hd_h2 (h : Hd) : ((dV (handD h)).drop 2).head? = some (vI h.arr) := rfl
theorem hd_h3 (h : Hd) : ((dV (handD h)).drop 3).head? = some (vI h.leg) := rfl
theorem hd_h4 (h : Hd) : ((dV (handD h)).drop 4).head? = some (vI h.frm) := rfl
theorem hd_h5 (h : Hd) : ((dV (handD h)).drop 5).head? = some (vI h.to_) := rfl
theorem hd_h6 (h : Hd) : ((dV (handD h)).drop 6).head? = some (vI h.many) := rfl
theorem hd_d7 (h : Hd) : (handD h).drop 7 = rootD h.root.toList ++ tailD h := rfl
theorem hd_d39 (h : Hd) : (handD h).drop 39 = tailD h := by
  rw [show (39 : Nat) = 7 + 32 from rfl, ← List.drop_drop, hd_d7, List.drop_left' (by rw [rootD_ln, Vector.length_toList])]
theorem hd_d39V (h : Hd) : (dV (handD h)).drop 39 = dV (tailD h) := by rw [← hd_d39]; simp [dV]
theorem hd_h39 (h : Hd) : ((dV (handD h)).drop 39).head? = some (vI h.time) := by rw [hd_d39V]; rfl
theorem hd_h40 (h : Hd) : ((dV (handD h)).drop 40).head? = some (vI h.se) := by rw [show (40 : Nat) = 39 + 1 from rfl, ← List.drop_drop, hd_d39V]; rfl
theorem hd_h41 (h : Hd) : ((dV (handD h)).drop 41).head? = some (vI h.ss) := by rw [show (41 : Nat) = 39 + 2 from rfl, ← List.drop_drop, hd_d39V]; rfl
theorem dV_drop (k : Nat) (l : List D) : dV (l.drop k) = (dV l).drop k := by simp [dV]
theorem hd_p0 (h : Hd) : (dV ((handD h).drop 1)).head? = some (vI h.at_) := rfl
theorem hd_p1 (h : Hd) : (dV ((handD h).drop 2)).head? = some (vI h.arr) := rfl
theorem hd_p3 (h : Hd) : (dV ((handD h).drop 3)).head? = some (vI h.leg) := rfl
theorem hd_p4 (h : Hd) : (dV ((handD h).drop 4)).head? = some (vI h.frm) := rfl
theorem hd_p5 (h : Hd) : (dV ((handD h).drop 5)).head? = some (vI h.to_) := rfl
theorem hd_p6 (h : Hd) : (dV ((handD h).drop 6)).head? = some (vI h.many) := rfl
theorem hd_p39 (h : Hd) : (dV ((handD h).drop 39)).head? = some (vI h.time) := by rw [dV_drop, hd_h39]
theorem hd_p40 (h : Hd) : (dV ((handD h).drop 40)).head? = some (vI h.se) := by rw [dV_drop, hd_h40]
theorem hd_p41 (h : Hd) : (dV ((handD h).drop 41)).head? = some (vI h.ss) := by rw [dV_drop, hd_h41]
theorem hd_rt (h : Hd) : ((handD h).drop 7).take 32 = rootD h.root.toList := by rw [hd_d7, List.take_left' (by rw [rootD_ln, Vector.length_toList])]
theorem hd_rtV (h : Hd) : ((dV (handD h)).drop 7).take 32 = dV (rootD h.root.toList) := by rw [← hd_rt]; simp [dV]
def rootK (r : List UInt8) : List (IntKind × Int) := r.map fun b => (.u8, (b.toNat : Int))
def handK (h : Hd) : List (IntKind × Int) := (.i64, h.line) :: (.i64, h.at_) :: (.i64, h.arr) :: (.i64, h.leg) :: (.i64, h.frm) :: (.i64, h.to_) :: (.i64, h.many) :: (rootK h.root.toList ++ [(.i64, h.time), (.i64, h.se), (.i64, h.ss)])
def handKs : List IntKind := [.i64, .i64, .i64, .i64, .i64, .i64, .i64] ++ List.replicate 32 .u8 ++ [.i64, .i64, .i64]
theorem kc_app : ∀ (l : List (IntKind × Int)) (r : List V) (m : List (IntKind × Int)), kcells r = some m → kcells (l.map (fun p => .d (.c (.int p.1 p.2))) ++ r) = some (l ++ m)
  | [], r, m, h => h
  | p :: l, r, m, h => by simp only [List.map_cons, List.cons_append, kcells, kc_app l r m h, Option.map_some]
theorem dV_K (l : List (IntKind × Int)) : dV (l.map fun p => .c (.int p.1 p.2)) = l.map (fun p => V.d (.c (.int p.1 p.2))) := by simp [dV]
theorem handD_K (h : Hd) : handD h = (handK h).map fun p => .c (.int p.1 p.2) := by simp [handD, handK, rootD, rootK, tailD, List.map_map]
theorem hd_kc (h : Hd) : kcells (dV (handD h)) = some (handK h) := by
  rw [handD_K, dV_K]
  have := kc_app (handK h) [] [] rfl
  simpa using this
theorem ic_none : ∀ (l : List (IntKind × Int)), (∃ p ∈ l, p.1 ≠ .i64) → icells (l.map fun p => .d (.c (.int p.1 p.2))) = none
  | [], h => by obtain ⟨p, hp, _⟩ := h; cases hp
  | (k, n) :: l, h => by
    by_cases hk : k = .i64
    · subst hk
      have : ∃ p ∈ l, p.1 ≠ IntKind.i64 := by
        obtain ⟨p, hp, hn⟩ := h
        rcases List.mem_cons.1 hp with rfl | hp
        · exact absurd rfl hn
        · exact ⟨p, hp, hn⟩
      simp only [List.map_cons, icells, ic_none l this, Option.map_none]
    · simp only [List.map_cons]
      unfold icells
      split
      · rename_i heq; cases heq
      · rename_i heq; simp only [List.cons.injEq, V.d.injEq, D.c.injEq, Value.int.injEq] at heq; exact absurd heq.1.1 hk
      · rfl
theorem hd_ic (h : Hd) : icells (dV (handD h)) = none := by
  rw [handD_K, dV_K]
  refine ic_none _ ⟨(.u8, ((h.root[0]).toNat : Int)), ?_, by simp⟩
  unfold handK rootK
  have : h.root[0] ∈ h.root.toList := by simp
  simp only [List.mem_cons, List.mem_append]
  exact .inr (.inr (.inr (.inr (.inr (.inr (.inr (.inl (List.mem_map_of_mem (f := fun b : UInt8 => (IntKind.u8, (b.toNat : Int))) this))))))))
theorem hd_ks (h : Hd) : (handK h).map (·.1) = handKs := by
  have : ∀ l : List UInt8, (rootK l).map (·.1) = List.replicate l.length IntKind.u8 := fun l => by induction l with
    | nil => rfl
    | cons b l ih => rw [List.length_cons, List.replicate_succ, ← ih]; rfl
  unfold handK handKs
  simp [this]
theorem rootK_inj {a b : List UInt8} (h : rootK a = rootK b) : a = b := by
  unfold rootK at h
  exact (List.map_inj_right (fun x y e => by simp only [Prod.mk.injEq, true_and] at e; exact UInt8.toNat_inj.1 (by exact_mod_cast e))).1 h
theorem handK_inj {a b : Hd} (h : handK a = handK b) : a = b := by
  obtain ⟨a1, a2, a3, a4, a5, a6, a7, a8, a9, a10, a11⟩ := a
  obtain ⟨b1, b2, b3, b4, b5, b6, b7, b8, b9, b10, b11⟩ := b
  simp only [handK, List.cons.injEq, Prod.mk.injEq, true_and] at h
  obtain ⟨rfl, rfl, rfl, rfl, rfl, rfl, rfl, h⟩ := h
  have hl := List.append_inj h (by simp [rootK])
  have h8 : a8 = b8 := Vector.toList_inj.1 (rootK_inj hl.1)
  simp at hl
  obtain ⟨_, rfl, rfl, rfl⟩ := hl
  rw [h8]
theorem hd_beq (a b : Hd) : (handK a == handK b) = decide (a = b) := by
  rw [Bool.eq_iff_iff]
  simp only [beq_iff_eq, decide_eq_true_eq]
  exact ⟨handK_inj, fun e => by rw [e]⟩
theorem hd_s6 (h : Hd) (x : Int) : splice (dV (handD h)) 6 [vI x] = dV (handD { h with many := x }) := rfl
theorem hd_s40 (h : Hd) (x y : Int) : splice (dV (handD h)) 40 [vI x, vI y] = dV (handD { h with se := x, ss := y }) := by
  unfold splice
  have e1 : (dV (handD h)).take 40 = (dV (handD h)).take 39 ++ [vI h.time] := by
    rw [show (40 : Nat) = 39 + 1 from rfl, List.take_add, hd_d39V]; rfl
  have e2 : (dV (handD h)).take 39 = (dV (handD { h with se := x, ss := y })).take 39 := by
    simp only [handD, dV, List.map_cons, List.map_append]
    rw [show (39 : Nat) = 38 + 1 from rfl]
    simp only [List.take_succ_cons]
    congr 7
    rw [List.take_left' (by simp [rootD_ln]), List.take_left' (by simp [rootD_ln])]
  have e3 : (dV (handD h)).drop (40 + ([vI x, vI y] : List V).length) = [] := List.drop_eq_nil_of_le (by rw [hd_sz]; simp)
  rw [e1, e2, e3]
  have : dV (handD { h with se := x, ss := y }) = (dV (handD { h with se := x, ss := y })).take 39 ++ (dV (handD { h with se := x, ss := y })).drop 39 := (List.take_append_drop _ _).symm
  rw [hd_d39V] at this
  refine Eq.trans ?_ this.symm
  rw [List.append_nil, List.append_assoc]
  rfl
set_option linter.defProp false in
def handS := And.intro @hd_ln (And.intro @hd_sz (And.intro @hd_take (And.intro @hd_takeD (And.intro @hd_t3 (And.intro @hd_h0 (And.intro @hd_h1 (And.intro @hd_h2 (And.intro @hd_h3 (And.intro @hd_h4 (And.intro @hd_h5 (And.intro @hd_h6 (And.intro @hd_h39 (And.intro @hd_h40 (And.intro @hd_h41 (And.intro @hd_p0 (And.intro @hd_p1 (And.intro @hd_p3 (And.intro @hd_p4 (And.intro @hd_p5 (And.intro @hd_p6 (And.intro @hd_p39 (And.intro @hd_p40 (And.intro @hd_p41 (And.intro @hd_rt (And.intro @hd_rtV (And.intro @hd_kc (And.intro @hd_ic (And.intro @hd_ks @hd_beq))))))))))))))))))))))))))))
def byD (b : UInt8) : List D := [.c (.int .u8 b.toNat)]
abbrev bsD (l : List UInt8) : D := .sl 1 (byD 0) (l.map byD)
def strL (l : List UInt8) : ByteArray := ⟨l.toArray⟩
theorem bytesD_str (l : List UInt8) : bytesD (strL l) = l.map byD := rfl
theorem u8s_by : ∀ l : List UInt8, u8s (l.map byD) = some (l.map fun b => (b.toNat : Int))
  | [] => rfl
  | b :: l => by rw [List.map_cons, byD, u8s, u8s_by l]; rfl
theorem strOf_by (l : List UInt8) : strOfNums (l.map fun b => (b.toNat : Int)) = strL l := by
  unfold strOfNums strL
  congr 2
  rw [List.map_map]
  refine (List.map_congr_left fun b _ => ?_).trans (List.map_id _)
  simp
theorem rootD_by (l : List UInt8) : (rootD l).map (fun d => [d]) = l.map byD := by simp [rootD, byD]
theorem str_sz (l : List UInt8) : (strL l).data.toList = l := rfl
theorem str_tl (l : List UInt8) : (strL l).toList = l := by rw [ByteArray.toList_eq]; rfl
theorem ta_n : toAs [] = some [] := rfl
theorem ta_a {xs : List D} {vs : List V} {l : List A} (h : toAs vs = some l) : toAs (.agg (dV xs) :: vs) = some (.agg xs :: l) := by simp [toAs, toA_dV, h]
theorem ta_d {x : D} {vs : List V} {l : List A} (h : toAs vs = some l) : toAs (.d x :: vs) = some (.one x :: l) := by simp [toAs, toA, toD, h]
theorem ta_o {n sz : Nat} {d0 : List D} {es : List (List D)} {vs : List V} {l : List A} (h : toAs vs = some l) : toAs (.ow n sz d0 es :: vs) = some (.one (.sl sz d0 es) :: l) := by simp [toAs, toA, toD, h]

set_option maxRecDepth 100000
set_option maxHeartbeats 4000000
theorem eqT_i64 : EqT Try.prog 3 [.i64] 1 := .inl ⟨_, Try.underlying3, rfl, Nat.le_refl _⟩
theorem eqT_Run : EqT Try.prog 40 [.i64, .i64, .i64] 2 := eqT_struct (kss := [[.i64], [.i64], [.i64]]) (by kernel_rfl) (by kernel_rfl) (by kernel_rfl) rfl (fieldsK_of (tab := [(3, [.i64])]) (by simp only [List.mem_singleton, forall_eq]; exact eqT_i64) _ _ _ (by decide +kernel))
theorem eqT_Sig : EqT Try.prog 44 [.i64, .i64] 2 := eqT_struct (kss := [[.i64], [.i64]]) (by kernel_rfl) (by kernel_rfl) (by kernel_rfl) rfl (fieldsK_of (tab := [(3, [.i64])]) (by simp only [List.mem_singleton, forall_eq]; exact eqT_i64) _ _ _ (by decide +kernel))
theorem eqT_Dig : EqT Try.prog 42 (List.replicate 32 .u8) 2 := by
  cases hi : Try.prog.info? 5 with
  | none => exact absurd hi (by decide +kernel)
  | some i => exact eqT_arr (e := 5) (by kernel_rfl) Try.underlying5 hi (by kernel_rfl) (by kernel_rfl)
theorem eqT_Slot : EqT Try.prog 142 [.i64, .i64, .i64, .i64, .i64] 3 := eqT_struct (kss := [[.i64, .i64, .i64], [.i64], [.i64]]) (by kernel_rfl) (by kernel_rfl) (by kernel_rfl) rfl (fieldsK_of (tab := [(3, [.i64]), (40, [.i64, .i64, .i64])]) (by
  intro p hp
  simp only [List.mem_cons, List.not_mem_nil, or_false] at hp
  rcases hp with rfl | rfl
  · exact eqT_i64.up (by omega)
  · exact eqT_Run) _ _ _ (by decide +kernel))
theorem eqT_Hand : EqT Try.prog 46 handKs 3 := eqT_struct (kss := [[.i64, .i64, .i64], [.i64], [.i64], [.i64], [.i64], List.replicate 32 .u8, [.i64], [.i64, .i64]]) (by kernel_rfl) (by kernel_rfl) (by kernel_rfl) rfl (fieldsK_of (tab := [(3, [.i64]), (40, [.i64, .i64, .i64]), (44, [.i64, .i64]), (42, List.replicate 32 .u8)]) (by
  intro p hp
  simp only [List.mem_cons, List.not_mem_nil, or_false] at hp
  rcases hp with rfl | rfl | rfl | rfl
  · exact eqT_i64.up (by omega)
  · exact eqT_Run
  · exact eqT_Sig
  · exact eqT_Dig) _ _ _ (by decide +kernel))
theorem isAgg_of {t : TypeId} {fs : Array Field} (h : Try.prog.underlying t = some (.struct fs)) (w : World) : (isAgg t).run Try.prog w = .ok true w := by unfold Go.isAgg; rw [Sem.run_bind, run_underlying h w]; rfl
theorem eqSlot : EqInts Try.prog 142 5 := eqI_of (eqK_of eqT_Slot (by omega) (isAgg_of Try.underlying142) (by kernel_rfl))
theorem eqHand : EqKInts Try.prog 46 handKs := eqK_of eqT_Hand (by omega) (isAgg_of Try.underlying46) (by kernel_rfl)
def btw (n lo hi : Int) : Bool := decide (n ≥ lo) && decide (n ≤ hi)
theorem hbetween_spec (n lo hi : Int) : Spec Try.prog 93 [aI n, aI lo, aI hi] (.r1 (aB (btw n lo hi))) := by
  refine spec_of T_ok Try.func93 (by dsimp only [Try.f93]) rfl rfl (by simp) fun w F => ?_
  repeat' (first | (with_reducible refine aw_seq ?_) | ((with_reducible refine And.intro ?_ ?_); (focus (rfl))) | ((first | ((with_reducible refine aw_regionA T_ok ?_ ?_); kernel_rfl) | (with_reducible refine aw_ret ?_) ); simp only [↓avP, avQ, avR, forall_const, implies_true, Nat.reduceEqDiff, Nat.reduceAdd, Nat.reduceLeDiff, reduceCtorEq, avS, handS, ty_3, ty_46, ty_40, ty_142]; try simp (disch := omega) only [av_w, av_t1, av_tp, Int.toNat_natCast]))
  exact Sub.refl _
def formB (h : Hd) : Bool := (btw h.at_ 0 2097151 && btw h.arr 0 2097151 && btw h.time 0 2097151) && (btw h.frm 0 23 && btw h.to_ (-1) 23 && h.frm != h.to_) && btw h.line 0 63 && btw h.leg 0 8 && btw h.many 0 64
theorem hformed_spec (h : Hd) : Spec Try.prog 80 [.agg (handD h)] (.r1 (aB (formB h))) := by
  refine spec_of T_ok Try.func80 (by dsimp only [Try.f80]) rfl rfl (by simp) fun w F => ?_
  repeat' (first | (with_reducible refine aw_seq ?_) | ((first | ((with_reducible refine aw_regionA T_ok ?_ ?_); kernel_rfl) | ((with_reducible refine callK_intro (hbetween_spec _ _ _) (by repeat' (first | exact ta_n | refine ta_d ?_)) ?_ ?_); kernel_rfl) | ((with_reducible refine callI_spec (hbetween_spec _ _ _) (by repeat' (first | exact ta_n | refine ta_d ?_)) ?_ ?_ ?_); kernel_rfl; kernel_rfl) | (with_reducible refine aw_ret ?_) ); simp only [↓avP, avQ, avR, forall_const, implies_true, Nat.reduceEqDiff, Nat.reduceAdd, reduceCtorEq, avS, handS, ty_3, ty_46, ty_40]; try simp (disch := omega) only [av_w, av_t1, av_tp, Int.toNat_natCast]))
  all_goals exact Sub.of_eq (by simp [formB])
theorem hslot_spec (h : Hd) : Spec Try.prog 81 [.agg (handD h)] (.r1 (.agg [cI h.line, cI h.at_, cI h.arr, cI h.leg, cI h.frm])) := by
  refine spec_of T_ok Try.func81 (by dsimp only [Try.f81]) rfl rfl (by simp) fun w F => ?_
  repeat' (first | (with_reducible refine aw_seq ?_) | ((with_reducible refine And.intro ?_ ?_); (focus (rfl))) | ((first | ((with_reducible refine aw_regionA T_ok ?_ ?_); kernel_rfl) | (with_reducible refine aw_ret ?_) ); simp only [↓avP, avQ, avR, forall_const, implies_true, Nat.reduceEqDiff, Nat.reduceAdd, Nat.reduceLeDiff, reduceCtorEq, avS, handS, ty_3, ty_46, ty_40, ty_142]; try simp (disch := omega) only [av_w, av_t1, av_tp, Int.toNat_natCast]))
  all_goals exact Sub.refl _
def clashB (a b : Hd) : Bool := formB a && formB b && ([a.line, a.at_, a.arr, a.leg, a.frm] == [b.line, b.at_, b.arr, b.leg, b.frm]) && !(decide ({ a with se := 0, ss := 0 } = { b with se := 0, ss := 0 }))
theorem hClash_spec (a b : Hd) : Spec Try.prog 60 [.agg (handD a), .agg (handD b)] (.r1 (aB (clashB a b))) := by
  refine spec_of T_ok Try.func60 (by dsimp only [Try.f60]) rfl rfl (by simp) fun w F => ?_
  cases ha : formB a with
  | false =>
    repeat' (first | (with_reducible refine aw_seq ?_) | ((with_reducible refine two_intro ?_ ?_) <;> intro h <;> first | contradiction | (((guard_hyp h : true = true; clear h)))) | ((with_reducible refine And.intro ?_ ?_); (focus (exact eqSlot))) | ((first | ((with_reducible refine aw_regionA T_ok ?_ ?_); kernel_rfl) | ((with_reducible refine aw_drawnA T_ok ?_ ?_ ?_ ?_); kernel_rfl; kernel_rfl; (focus (decide +kernel))) | ((with_reducible refine callK_intro (hformed_spec _) (by repeat' (first | exact ta_n | refine ta_a ?_)) ?_ ?_); kernel_rfl) | ((with_reducible refine callK_intro (hslot_spec _) (by repeat' (first | exact ta_n | refine ta_a ?_)) ?_ ?_); kernel_rfl) | ((with_reducible refine aw_condM ?_ ?_); kernel_rfl) | (with_reducible refine aw_ret ?_) ); simp only [↓avP, avQ, avR, forall_const, implies_true, Nat.reduceEqDiff, Nat.reduceAdd, Nat.reduceLeDiff, reduceCtorEq, avS, handS, ty_46, ha]; try simp (disch := omega) only [av_w, av_t1, av_tp, Int.toNat_natCast]))
    all_goals exact Sub.of_eq (by simp [clashB, ha])
  | true =>
  cases hb : formB b with
  | false =>
    repeat' (first | (with_reducible refine aw_seq ?_) | ((with_reducible refine two_intro ?_ ?_) <;> intro h <;> first | contradiction | (((guard_hyp h : true = true; clear h)))) | ((with_reducible refine And.intro ?_ ?_); (focus (exact eqSlot))) | ((first | ((with_reducible refine aw_regionA T_ok ?_ ?_); kernel_rfl) | ((with_reducible refine aw_drawnA T_ok ?_ ?_ ?_ ?_); kernel_rfl; kernel_rfl; (focus (decide +kernel))) | ((with_reducible refine callK_intro (hformed_spec _) (by repeat' (first | exact ta_n | refine ta_a ?_)) ?_ ?_); kernel_rfl) | ((with_reducible refine callK_intro (hslot_spec _) (by repeat' (first | exact ta_n | refine ta_a ?_)) ?_ ?_); kernel_rfl) | ((with_reducible refine aw_condM ?_ ?_); kernel_rfl) | (with_reducible refine aw_ret ?_) ); simp only [↓avP, avQ, avR, forall_const, implies_true, Nat.reduceEqDiff, Nat.reduceAdd, Nat.reduceLeDiff, reduceCtorEq, avS, handS, ty_46, ha, hb]; try simp (disch := omega) only [av_w, av_t1, av_tp, Int.toNat_natCast]))
    all_goals exact Sub.of_eq (by simp [clashB, ha, hb])
  | true =>
  cases hs : ([a.line, a.at_, a.arr, a.leg, a.frm] == [b.line, b.at_, b.arr, b.leg, b.frm]) with
  | false =>
    repeat' (first | (with_reducible refine aw_seq ?_) | ((with_reducible refine two_intro ?_ ?_) <;> intro h <;> first | contradiction | ((first | (guard_hyp h : true = true; clear h) | (guard_hyp h : false = false; clear h)))) | ((with_reducible refine And.intro ?_ ?_); (focus (first | exact eqSlot | exact eqHand | rfl))) | ((first | ((with_reducible refine aw_regionA T_ok ?_ ?_); kernel_rfl) | ((with_reducible refine aw_drawnA T_ok ?_ ?_ ?_ ?_); kernel_rfl; kernel_rfl; (focus (decide +kernel))) | ((with_reducible refine callK_intro (hformed_spec _) (by repeat' (first | exact ta_n | refine ta_a ?_)) ?_ ?_); kernel_rfl) | ((with_reducible refine callK_intro (hslot_spec _) (by repeat' (first | exact ta_n | refine ta_a ?_)) ?_ ?_); kernel_rfl) | (with_reducible refine aw_skip ?_) | ((with_reducible refine aw_condM ?_ ?_); kernel_rfl) | (with_reducible refine aw_ret ?_) ); simp only [↓avP, avQ, avR, forall_const, implies_true, Nat.reduceEqDiff, Nat.reduceAdd, Nat.reduceLeDiff, reduceCtorEq, avS, handS, ↓hd_s40, ty_46, ty_44, ha, hb, hs]; try simp (disch := omega) only [av_w, av_t1, av_tp, Int.toNat_natCast]))
    all_goals exact Sub.of_eq (by simp only [clashB, ha, hb, hs, Bool.and_false, Bool.false_and])
  | true =>
    repeat' (first | (with_reducible refine aw_seq ?_) | ((with_reducible refine two_intro ?_ ?_) <;> intro h <;> first | contradiction | ((first | (guard_hyp h : true = true; clear h) | (guard_hyp h : false = false; clear h)))) | ((with_reducible refine And.intro ?_ ?_); (focus (first | exact eqSlot | exact eqHand | rfl))) | ((first | ((with_reducible refine aw_regionA T_ok ?_ ?_); kernel_rfl) | ((with_reducible refine aw_drawnA T_ok ?_ ?_ ?_ ?_); kernel_rfl; kernel_rfl; (focus (decide +kernel))) | ((with_reducible refine callK_intro (hformed_spec _) (by repeat' (first | exact ta_n | refine ta_a ?_)) ?_ ?_); kernel_rfl) | ((with_reducible refine callK_intro (hslot_spec _) (by repeat' (first | exact ta_n | refine ta_a ?_)) ?_ ?_); kernel_rfl) | (with_reducible refine aw_skip ?_) | ((with_reducible refine aw_condM ?_ ?_); kernel_rfl) | (with_reducible refine aw_ret ?_) ); simp only [↓avP, avQ, avR, forall_const, implies_true, Nat.reduceEqDiff, Nat.reduceAdd, Nat.reduceLeDiff, reduceCtorEq, avS, handS, ↓hd_s40, ty_46, ty_44, ha, hb, hs]; try simp (disch := omega) only [av_w, av_t1, av_tp, Int.toNat_natCast]))
    all_goals exact Sub.of_eq (by simp only [clashB, ha, hb, hs, Bool.true_and])
theorem clash_self (h : Hd) (m : Int) (hm : formB h = true → btw m 0 64 = true ∧ h.many ≠ m) : clashB h { h with many := m } = formB h := by
  unfold clashB
  cases hf : formB h with
  | false => simp
  | true =>
    obtain ⟨h1, hne⟩ := hm hf
    have h2 : formB { h with many := m } = true := by
      unfold formB at hf ⊢
      simp only [Bool.and_eq_true] at hf
      simp [hf, h1]
    have h3 : decide ({ h with se := 0, ss := 0 } = { h with many := m, se := 0, ss := 0 }) = false := decide_eq_false fun e => hne (congrArg Hd.many e)
    simp only [h2, h3, Bool.true_and, beq_self_eq_true, Bool.not_false]
theorem form_many {h : Hd} (hf : formB h = true) : 0 ≤ h.many ∧ h.many ≤ 64 := by
  unfold formB btw at hf
  simp only [Bool.and_eq_true, decide_eq_true_eq] at hf
  omega
theorem gformed_spec (h : Hd) (hm : -9223372036854775808 ≤ h.many ∧ h.many ≤ 9223372036854775807) : Spec Try.prog 41 [.agg (handD h)] (.r1 (aB (formB h))) := by
  refine spec_of T_ok Try.func41 (by dsimp only [Try.f41]) rfl rfl (by simp) fun w F => ?_
  cases hc : (h.many == 64) with
  | true =>
    repeat' (first | (with_reducible refine aw_seq ?_) | ((with_reducible refine two_intro ?_ ?_) <;> intro h <;> first | contradiction | ((first | (guard_hyp h : true = true; clear h) | (guard_hyp h : false = false; clear h)))) | ((with_reducible refine And.intro ?_ ?_); (focus (rfl))) | ((first | ((with_reducible refine aw_regionA T_ok ?_ ?_); kernel_rfl) | ((with_reducible refine callI_spec (hClash_spec _ _) (by repeat' (first | exact ta_n | refine ta_a ?_)) ?_ ?_ ?_); kernel_rfl; kernel_rfl) | (with_reducible refine aw_skip ?_) | ((with_reducible refine aw_condM ?_ ?_); kernel_rfl) | (with_reducible refine aw_ret ?_) ); simp only [↓avP, avQ, avR, forall_const, implies_true, Nat.reduceEqDiff, Nat.reduceAdd, Nat.reduceLeDiff, reduceCtorEq, avS, handS, ↓hd_s6, ty_3, ty_46, hc]; try simp (disch := omega) only [av_w, av_t1, av_tp, Int.toNat_natCast]))
    have hc := beq_iff_eq.1 hc
    all_goals exact Sub.of_eq (congrArg aB (clash_self h 0 fun _ => ⟨rfl, by omega⟩))
  | false =>
    repeat' (first | (with_reducible refine aw_seq ?_) | ((with_reducible refine two_intro ?_ ?_) <;> intro h <;> first | contradiction | ((first | (guard_hyp h : true = true; clear h) | (guard_hyp h : false = false; clear h)))) | ((with_reducible refine And.intro ?_ ?_); (focus (rfl))) | ((first | ((with_reducible refine aw_regionA T_ok ?_ ?_); kernel_rfl) | ((with_reducible refine callI_spec (hClash_spec _ _) (by repeat' (first | exact ta_n | refine ta_a ?_)) ?_ ?_ ?_); kernel_rfl; kernel_rfl) | (with_reducible refine aw_skip ?_) | ((with_reducible refine aw_condM ?_ ?_); kernel_rfl) | (with_reducible refine aw_ret ?_) ); simp only [↓avP, avQ, avR, forall_const, implies_true, Nat.reduceEqDiff, Nat.reduceAdd, Nat.reduceLeDiff, reduceCtorEq, avS, handS, ↓hd_s6, ty_3, ty_46, hc]; try simp (disch := omega) only [av_w, av_t1, av_tp, Int.toNat_natCast]))
    have hc := beq_eq_false_iff_ne.1 hc
    all_goals exact Sub.of_eq (congrArg aB (clash_self h _ fun hf => by
      have := form_many hf
      rw [av_w (by omega)]
      exact ⟨by unfold btw; simp; omega, by omega⟩))
end Go.Proofs.Ythidfoohhhkobaa


namespace Go.Proofs.Ythidfoohhhkobaa.Cd
set_option linter.unusedSimpArgs false
set_option linter.unusedVariables false
open Go.RowKit

section
variable {P : Program}
structure Grew (base : Nat) (e : TypeId) (size : Nat) (w : World) (v : Value) (v' : Value) (n : Nat) (xs : List Value) (w' : World) : Prop where
  own : w'.ownsRow base e size v' n xs
  by_ : w.grownBy w' v.ownBlock
  new : ∀ g, v'.ownBlock = some g → w.heap.size ≤ g ∨ v.ownBlock = some g

theorem grownBy_refl (w : World) (row : Option Nat) : w.grownBy w row := ⟨rfl, rfl, rfl, Nat.le_refl _, fun _ _ _ => rfl⟩
theorem Grew.refl {base : Nat} {e : TypeId} {size : Nat} {w : World} {v : Value} {n : Nat} {xs : List Value} (h : w.ownsRow base e size v n xs) : Grew base e size w v v n xs w :=
  ⟨h, grownBy_refl _ _, fun _ h => .inr h⟩
theorem Grew.trans {base : Nat} {e : TypeId} {size : Nat} {w w1 w2 : World} {v v1 v2 : Value} {n n2 : Nat} {xs xs2 : List Value}
    (h : Grew base e size w v v1 n xs w1) (h2 : Grew base e size w1 v1 v2 n2 xs2 w2) : Grew base e size w v v2 n2 xs2 w2 :=
  ⟨h2.own, h.by_.andThen h2.by_ h.new, fun g hg => by
    rcases h2.new g hg with h3 | h3
    · exact .inl (Nat.le_trans h.by_.size h3)
    · exact h.new g h3⟩
theorem Grew.behind {base : Nat} {e : TypeId} {size : Nat} {w w0 w' : World} {v v' : Value} {n : Nat} {xs : List Value}
    (h : Grew base e size w0 v v' n xs w') (hb : Below w.heap.size w w0) : Grew base e size w v v' n xs w' :=
  ⟨h.own, (⟨hb.os, hb.tape, hb.output, hb.size, fun k hk _ => hb.block k hk⟩ : w.grownBy w0 v.ownBlock).andThen h.by_ (fun j hj => .inr hj), fun g hg => by
    rcases h.new g hg with h3 | h3
    · exact .inl (Nat.le_trans hb.size h3)
    · exact .inr h3⟩
theorem Grew.below {base : Nat} {e : TypeId} {size : Nat} {w w' : World} {v v' : Value} {n : Nat} {xs : List Value} {B : Nat}
    (h : Grew base e size w v v' n xs w') (hB : B ≤ w.heap.size) (hv : ∀ g, v.ownBlock = some g → B ≤ g) : Below B w w' :=
  (Below.refl B w).grown h.by_ hB hv
theorem Grew.other {base : Nat} {e : TypeId} {size : Nat} {w w' : World} {v v' : Value} {n : Nat} {xs : List Value}
    (h : Grew base e size w v v' n xs w') {b : Nat} (hb : b < w.heap.size) (hne : v.ownBlock ≠ some b) : w'.heap[b]? = w.heap[b]? := h.by_.block b hb (fun e => hne e.symm)
theorem Grew.cell {base : Nat} {e : TypeId} {size : Nat} {w w' : World} {v v' : Value} {n : Nat} {xs : List Value}
    (h : Grew base e size w v v' n xs w') {a : Addr} {u : Value} (hc : w.cell? a = some u) (hne : v.ownBlock ≠ some a.block) : w'.cell? a = some u := h.by_.cell hc (fun e => hne e.symm)

theorem run_append_own2 (w : World) (base : Nat) (t ty e : TypeId) (i : TypeInfo) (z : Value) (size bytes : Nat) (ht : P.underlying t = some (.slice e)) (hi : P.info? e = some i) (hz : i.zero = some z)
    (hsize : i.size = size) (hby : i.bytes = bytes) (hzs : z.cells.size = size) (hsz : 0 < size)
    (v : Value) (n : Nat) (xs : List Value) (hown : w.ownsRow base e size v n xs)
    (a : Addr) (m c : Nat) (news : List Value) (hl : news.length = m * size) (hnews : ∀ j u, news[j]? = some u → w.cell? (a.add j) = some u) (h1 : ∀ u ∈ news, u.oneCell' = true)
    (h63 : n + m ≤ maxLen) (hbytes : (n + m) * bytes ≤ 140737488355328) (hbase : base ≤ w.heap.size) :
    ∃ v' w', (Builtin.append_ #[t, t] ty #[v, .slice (some a) m c]).run P w = .ok v' w' ∧ Grew base e size w v v' (n + m) (xs ++ news) w' := by
  obtain ⟨v', w', hr, h2, h3, h4⟩ := run_append_own (P := P) w base t ty e i z size bytes ht hi hz hsize hby hzs hsz v n xs hown a m c news hl hnews h1 h63 hbytes hbase
  refine ⟨v', w', hr, h2, h3, fun g hg => ?_⟩
  subst hsize
  subst hby
  have hsmall : n + m ≤ 9223372036854775807 := by simp only [maxLen] at h63; omega
  rcases hown.2 with ⟨rfl, rfl⟩ | ⟨g0, cap, cur, rfl, hbg, hg0, hnc, hcm, hcs, htake⟩
  · by_cases hm : m = 0
    · rw [h4.2 ⟨rfl, hm⟩] at hg; cases hg
    · have hr2 := run_append_nil (P := P) w t ty e i z ht hi hz a m c news hl hnews (by omega) (by omega) (by have hb := hbytes; simp only [Nat.zero_add] at hb; omega)
      rw [hr2] at hr
      injection hr with e1 e2
      subst e1
      injection hg with hg; subst hg
      exact .inl (Nat.le_refl _)
  · by_cases hroom : n + m ≤ cap
    · have hfit : n * i.size + news.length ≤ cur.size := by rw [hl, hcs, ← Nat.add_mul]; exact Nat.mul_le_mul_right _ hroom
      have hr2 := run_append_room (P := P) w t ty e i ht hi g0 n cap cur hg0 a m c news hl hnews h1 hroom hfit
      rw [hr2] at hr
      injection hr with e1 e2
      subst e1
      exact .inr hg
    · have hr2 := run_append_grow (P := P) w t ty e i z ht hi hz ⟨g0, 0, none⟩ n cap xs hown.1 (hown.cells (g := g0) rfl) a m c news hl hnews (by omega) (by omega) (growslice_fits (by omega) hbytes)
      rw [hr2] at hr
      injection hr with e1 e2
      subst e1
      injection hg with hg; subst hg
      exact .inl (Nat.le_refl _)

def Source (P : Program) (t tx : TypeId) (size : Nat) (w : World) (x : Value) (m : Nat) (news : List Value) : Prop :=
  (∃ ad c, x = .slice (some ad) m c ∧ tx = t ∧ news.length = m * size ∧ (∀ j u, news[j]? = some u → w.cell? (ad.add j) = some u) ∧ (∀ u ∈ news, u.oneCell' = true)) ∨
  (x = .slice none 0 0 ∧ m = 0 ∧ news = [] ∧ tx = t) ∨
  (∃ s, x = .string s ∧ m = s.size ∧ news = Lib.strCells s ∧ P.underlying tx = some .string ∧ size = 1)
theorem Source.cells {t tx : TypeId} {size : Nat} {w : World} (ad : Addr) (m c : Nat) (news : List Value) (ht : tx = t) (hl : news.length = m * size) (hnews : ∀ j u, news[j]? = some u → w.cell? (ad.add j) = some u) (h1 : ∀ u ∈ news, u.oneCell' = true) :
    Source P t tx size w (.slice (some ad) m c) m news := .inl ⟨ad, c, rfl, ht, hl, hnews, h1⟩
theorem Source.nil {t tx : TypeId} {size : Nat} {w : World} (ht : tx = t) : Source P t tx size w (.slice none 0 0) 0 [] := .inr (.inl ⟨rfl, rfl, rfl, ht⟩)
theorem Source.text {t tx : TypeId} {size : Nat} {w : World} (s : ByteArray) (hu : P.underlying tx = some .string) (h1 : size = 1) : Source P t tx size w (.string s) s.size (Lib.strCells s) := .inr (.inr ⟨s, rfl, rfl, rfl, hu, h1⟩)
theorem Source.own {t e : TypeId} {size : Nat} {w : World} {base : Nat} {v : Value} {n : Nat} {xs : List Value} (h : w.ownsRow base e size v n xs) (h1 : ∀ u ∈ xs, u.oneCell' = true) : Source P t t size w v n xs := by
  have hl := h.1
  have hc := fun (g : Nat) (hg : v.ownBlock = some g) => h.cells hg
  rcases h.2 with ⟨rfl, rfl⟩ | ⟨g, cap, cur, rfl, _⟩
  · have : xs = [] := List.eq_nil_of_length_eq_zero (by simpa using hl)
    subst this
    exact Source.nil rfl
  · exact Source.cells _ _ _ _ rfl hl (hc g rfl) h1
theorem Source.one {t e : TypeId} {w : World} (g : Nat) (u : Value) (hg : w.heap[g]? = some (.cells #[u] e (0, 0))) (h1 : u.oneCell' = true) : Source P t t 1 w (.slice (some ⟨g, 0, none⟩) 1 1) 1 [u] :=
  Source.cells _ _ _ _ rfl rfl (World.news_of_block (cs := #[u]) (t := e) (fr := (0, 0)) hg) (by simpa using h1)

theorem run_append_string2 (w : World) (base : Nat) (t u ty e : TypeId) (i : TypeInfo) (ht : P.underlying t = some (.slice e)) (hu : P.underlying u = some .string) (hi : P.info? e = some i) (hz : i.zero = some (.int .u8 0))
    (hsize : i.size = 1) (hby : i.bytes = 1) (v : Value) (n : Nat) (xs : List Value) (hown : w.ownsRow base e 1 v n xs) (s : ByteArray)
    (h63 : n + s.size ≤ maxLen) (hbytes : n + s.size ≤ 140737488355328) (hbase : base ≤ w.heap.size) :
    ∃ v' w', (Builtin.append_ #[t, u] ty #[v, .string s]).run P w = .ok v' w' ∧ Grew base e 1 w v v' (n + s.size) (xs ++ Lib.strCells s) w' := by
  obtain ⟨v', w', hr, h2, h3, h4⟩ := Lib.run_append_own_string (P := P) w base t u ty e i ht hu hi hz hsize hby v n xs hown s h63 hbytes hbase
  refine ⟨v', w', hr, h2, h3, fun g hg => ?_⟩
  have hsmall : n + s.size ≤ 9223372036854775807 := by simp only [maxLen] at h63; omega
  have hxl : xs.length = n := by simpa using hown.1
  rcases hown.2 with ⟨rfl, rfl⟩ | ⟨g0, cap, cur, rfl, hbg, hg0, hnc, hcm, hcs, htake⟩
  · by_cases hm : s.size = 0
    · rw [h4.2 ⟨rfl, hm⟩] at hg; cases hg
    · have hr2 := run_append_nil_string (P := P) w t u ty e i (.int .u8 0) ht hu hi hz s (by omega) (by omega) (by rw [hby]; omega)
      rw [hr2] at hr
      injection hr with e1 e2
      subst e1
      injection hg with hg; subst hg
      exact .inl (Nat.le_refl _)
  · by_cases hroom : n + s.size ≤ cap
    · have hcs' : cur.size = cap := by simpa using hcs
      have hr2 := Lib.run_append_room_string (P := P) w t u ty e i ht hu hi hsize g0 n cap cur hg0 s hroom (by omega)
      rw [hr2] at hr
      injection hr with e1 e2
      subst e1
      exact .inr hg
    · have hr2 := Lib.run_append_grow_string (P := P) w t u ty e i (.int .u8 0) ht hu hi hz ⟨g0, 0, none⟩ n cap xs (by rw [hsize]; simpa using hxl) (hown.cells (g := g0) rfl) s (by omega) (by omega) (by rw [hby]; exact growslice_fits (by omega) (by omega))
      rw [hr2] at hr
      injection hr with e1 e2
      subst e1
      injection hg with hg; subst hg
      exact .inl (Nat.le_refl _)

structure Elem (P : Program) (t e : TypeId) (z : Value) (size bytes : Nat) : Prop where
  ht : P.underlying t = some (.slice e)
  info : (P.info? e).map (fun i => (i.zero, i.size, i.bytes)) = some (some z, size, bytes)
  hzs : z.cells.size = size
  pos : 0 < size
  byte : size = 1 → bytes = 1 → z = .int .u8 0

theorem run_append_any (w : World) (base : Nat) {t tx ty e : TypeId} {z : Value} {size bytes : Nat} (E : Elem P t e z size bytes) (v : Value) (n : Nat) (xs : List Value) (hown : w.ownsRow base e size v n xs)
    (x : Value) (m : Nat) (news : List Value) (hS : Source P t tx size w x m news) (hb1 : tx = t ∨ bytes = 1)
    (h63 : n + m ≤ maxLen) (hbytes : (n + m) * bytes ≤ 140737488355328) (hbase : base ≤ w.heap.size) :
    ∃ v' w', (Builtin.append_ #[t, tx] ty #[v, x]).run P w = .ok v' w' ∧ Grew base e size w v v' (n + m) (xs ++ news) w' := by
  obtain ⟨i, hi, hz, hsz, hby⟩ := info_parts E.info
  rcases hS with ⟨ad, c, rfl, rfl, hl, hnews, h1⟩ | ⟨rfl, rfl, rfl, rfl⟩ | ⟨s, rfl, rfl, rfl, hu, h1⟩
  · exact run_append_own2 w base _ ty e i z size bytes E.ht hi hz hsz hby E.hzs E.pos v n xs hown ad _ c _ hl hnews h1 h63 hbytes hbase
  · refine ⟨v, w, run_append_owned_none (P := P) (w := w) base _ ty e i size E.ht hi v n xs hown, ?_⟩
    simpa using Grew.refl hown
  · rcases hb1 with h | h
    · rw [h, E.ht] at hu; cases hu
    · subst h1 h
      have := E.byte rfl rfl
      subst this
      exact run_append_string2 w base t tx ty e i E.ht hu hi hz hsz hby v n xs hown s h63 (by omega) hbase

section
variable {w : World} {a : Act} {ops : Array Oper} {rest : List Oper} {o : Oper} {Q : Exit → Act → World → Prop}
theorem wpList_app (hgd : o.guard = none) (s x : Operand) {t tx e : TypeId} {z : Value} {size bytes : Nat}
    (ho : o.op = .call { callee := .builtin .append, args := #[s, x], argTypes := #[t, tx] }) (E : Elem P t e z size bytes)
    (base : Nat) (v : Value) (n : Nat) (xs : List Value) (hs : a.eval s = v) (hown : w.ownsRow base e size v n xs) (xv : Value) (m : Nat) (news : List Value) (hx : a.eval x = xv) (hS : Source P t tx size w xv m news) (hb1 : tx = t ∨ bytes = 1)
    (h63 : n + m ≤ maxLen) (hbytes : (n + m) * bytes ≤ 140737488355328) (hbase : base ≤ w.heap.size)
    (h : ∀ v' w', Grew base e size w v v' (n + m) (xs ++ news) w' → wpList P ops Q rest (a.put o.dst v') w') : wpList P ops Q (o :: rest) a w := by
  refine wpList_plain hgd fun _ hK => ?_
  obtain ⟨v', w', hr, h2⟩ := run_append_any (P := P) w base (ty := o.type) E v n xs hown xv m news hS hb1 h63 hbytes hbase
  unfold Oper.wp execOp
  simp only [ho, resolve, invoke, builtin, Sem.run_bind, Sem.run_pure, Result.andThen_ok, List.map_toArray, List.map_cons, List.map_nil, hs, hx, hr]
  exact hK _ _ (h v' w' h2)
theorem step_app {K : Act → World → Prop} {E' : Prop} (hgd : o.guard = none) (s x : Operand) {t tx e : TypeId} {z : Value} {size bytes : Nat}
    (ho : o.op = .call { callee := .builtin .append, args := #[s, x], argTypes := #[t, tx] }) (E : Elem P t e z size bytes)
    (base : Nat) (v : Value) (n : Nat) (xs : List Value) (hs : a.eval s = v) (hown : w.ownsRow base e size v n xs) (xv : Value) (m : Nat) (news : List Value) (hx : a.eval x = xv) (hS : Source P t tx size w xv m news) (hb1 : tx = t ∨ bytes = 1)
    (h63 : n + m ≤ maxLen) (hbytes : (n + m) * bytes ≤ 140737488355328) (hbase : base ≤ w.heap.size)
    (h : ∀ v' w', Grew base e size w v v' (n + m) (xs ++ news) w' → K (a.put o.dst v') w') :
    if Region.wanted o (yielded ops a.tmps) = true then Oper.wp P o a w K Q else E' := by
  have hw : Region.wanted o (yielded ops a.tmps) = true := by simp [Region.wanted, hgd]
  rw [if_pos hw]
  obtain ⟨v', w', hr, h2⟩ := run_append_any (P := P) w base (ty := o.type) E v n xs hown xv m news hS hb1 h63 hbytes hbase
  unfold Oper.wp execOp
  simp only [ho, resolve, invoke, builtin, Sem.run_bind, Sem.run_pure, Result.andThen_ok, List.map_toArray, List.map_cons, List.map_nil, hs, hx, hr]
  exact h v' w' h2
end

theorem wpList_append_own2 {w : World} {ops : Array Oper} {rest : List Oper} {o : Oper} {a : Act} {Q : Exit → Act → World → Prop} (hgd : o.guard = none) (s x : Operand) (t : TypeId)
    (ho : o.op = .call { callee := .builtin .append, args := #[s, x], argTypes := #[t, t] })
    (base : Nat) (e : TypeId) (i : TypeInfo) (z : Value) (size bytes : Nat) (ht : P.underlying t = some (.slice e)) (hi : P.info? e = some i) (hz : i.zero = some z)
    (hsize : i.size = size) (hby : i.bytes = bytes) (hzs : z.cells.size = size) (hsz : 0 < size)
    (v : Value) (n : Nat) (xs : List Value) (hs : a.eval s = v) (hown : w.ownsRow base e size v n xs)
    (ad : Addr) (m c : Nat) (news : List Value) (hx : a.eval x = .slice (some ad) m c) (hl : news.length = m * size) (hnews : ∀ j u, news[j]? = some u → w.cell? (ad.add j) = some u) (h1 : ∀ u ∈ news, u.oneCell' = true)
    (h63 : n + m ≤ maxLen) (hbytes : (n + m) * bytes ≤ 140737488355328) (hbase : base ≤ w.heap.size)
    (h : ∀ v' w', Grew base e size w v v' (n + m) (xs ++ news) w' → wpList P ops Q rest (a.put o.dst v') w') : wpList P ops Q (o :: rest) a w := by
  refine wpList_plain hgd fun _ hK => ?_
  obtain ⟨v', w', hr, h2⟩ := run_append_own2 (P := P) w base t o.type e i z size bytes ht hi hz hsize hby hzs hsz v n xs hown ad m c news hl hnews h1 h63 hbytes hbase
  unfold Oper.wp execOp
  simp only [ho, resolve, invoke, builtin, Sem.run_bind, Sem.run_pure, Result.andThen_ok, List.map_toArray, List.map_cons, List.map_nil, hs, hx, hr]
  exact hK _ _ (h v' w' h2)
end
theorem le_alloc {b : Nat} {w : World} (h : b ≤ w.heap.size) (o : Obj) : b ≤ (w.alloc o).heap.size := by simp; omega
theorem one_int (k : IntKind) (n : Int) : ∀ u ∈ [Value.int k n], u.oneCell' = true := by simp [Value.oneCell']
theorem maxLen_le {n : Nat} (h : n ≤ 140737488355328) : n ≤ maxLen := by unfold maxLen; omega
end Go.Proofs.Ythidfoohhhkobaa.Cd

