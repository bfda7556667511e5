/- Closed facts of this seat's program for the pure machine: its table of types, the orders of the drawn regions, what is asked of it. -/
import Derived.Test.YtgkhojgmpojodaaGreatDoorPm4
import Derived.Test.YtgkhojgmpojodaaGreatDoorChecked
import Derived.Lib.AtoiAll
import Derived.Lib.LaidTab
namespace Go.Proofs.YtgkhojgmpojodaaGreatDoor
open Go Go.Pm Go.Proofs
set_option linter.unusedVariables false
set_option linter.unusedSimpArgs false
def tab : List (Nat × TI) := [
  (1, ⟨1, 8, .other, .pv false (.sc .nilFunc)⟩),
  (2, ⟨1, 8, .int .i64, .pv false (.sc (.int .i64 0))⟩),
  (3, ⟨1, 8, .int .i64, .pv false (.sc (.int .i64 0))⟩),
  (4, ⟨1, 1, .bool, .pv false (.sc (.bool false))⟩),
  (5, ⟨1, 1, .int .u8, .pv false (.sc (.int .u8 0))⟩),
  (6, ⟨1, 1, .int .u8, .pv false (.sc (.int .u8 0))⟩),
  (7, ⟨4, 24, .struct [(0, 2), (1, 3), (2, 4), (3, 6)], .ag [.pv false (.sc (.int .i64 0)), .pv false (.sc (.int .i64 0)), .pv false (.sc (.bool false)), .pv false (.sc (.int .u8 0))]⟩),
  (8, ⟨4, 24, .struct [(0, 2), (1, 3), (2, 4), (3, 6)], .ag [.pv false (.sc (.int .i64 0)), .pv false (.sc (.int .i64 0)), .pv false (.sc (.bool false)), .pv false (.sc (.int .u8 0))]⟩),
  (9, ⟨1, 16, .str, .pv false (.sc (.string ⟨#[]⟩))⟩),
  (10, ⟨1, 16, .str, .pv false (.sc (.string ⟨#[]⟩))⟩),
  (11, ⟨1, 16, .str, .pv false (.sc (.string ⟨#[]⟩))⟩),
  (12, ⟨1, 8, .int .u64, .pv false (.sc (.int .u64 0))⟩),
  (13, ⟨2, 24, .struct [(0, 9), (1, 12)], .ag [.pv false (.sc (.string ⟨#[]⟩)), .pv false (.sc (.int .u64 0))]⟩),
  (14, ⟨2, 24, .struct [(0, 9), (1, 12)], .ag [.pv false (.sc (.string ⟨#[]⟩)), .pv false (.sc (.int .u64 0))]⟩),
  (15, ⟨1, 8, .ptr 278, .pv false (.sc (.pointer none))⟩),
  (16, ⟨1, 8, .ptr 281, .pv false (.sc (.pointer none))⟩),
  (17, ⟨1, 8, .ptr 288, .pv false (.sc (.pointer none))⟩),
  (18, ⟨1, 8, .struct [(0, 17)], .ag [.pv false (.sc (.pointer none))]⟩),
  (19, ⟨1, 8, .struct [(0, 17)], .ag [.pv false (.sc (.pointer none))]⟩),
  (20, ⟨1, 16, .ifc, .pv false (.sc .nilIface)⟩),
  (21, ⟨1, 4, .int .i32, .pv false (.sc (.int .i32 0))⟩),
  (22, ⟨1, 24, .slice 154, .nl⟩),
  (23, ⟨2, 32, .struct [(0, 22), (1, 3)], .ag [.nl, .pv false (.sc (.int .i64 0))]⟩),
  (24, ⟨2, 32, .struct [(0, 22), (1, 3)], .ag [.nl, .pv false (.sc (.int .i64 0))]⟩),
  (25, ⟨1, 8, .other, .pv false (.sc .nilFunc)⟩),
  (26, ⟨1, 24, .slice 5, .nl⟩),
  (27, ⟨1, 8, .other, .pv false (.sc .nilFunc)⟩),
  (28, ⟨1, 24, .slice 95, .nl⟩),
  (29, ⟨2, 32, .struct [(0, 28), (1, 3)], .ag [.nl, .pv false (.sc (.int .i64 0))]⟩),
  (30, ⟨2, 32, .struct [(0, 28), (1, 3)], .ag [.nl, .pv false (.sc (.int .i64 0))]⟩),
  (31, ⟨1, 8, .other, .pv false (.sc .nilFunc)⟩),
  (32, ⟨1, 8, .other, .pv false (.sc .nilFunc)⟩),
  (33, ⟨1, 8, .other, .pv false (.sc .nilFunc)⟩),
  (34, ⟨1, 8, .other, .pv false (.sc .nilFunc)⟩),
  (35, ⟨1, 8, .other, .pv false (.sc .nilFunc)⟩),
  (36, ⟨1, 8, .other, .pv false (.sc .nilFunc)⟩),
  (37, ⟨1, 24, .slice 26, .nl⟩),
  (38, ⟨1, 24, .slice 40, .nl⟩),
  (39, ⟨5, 88, .struct [(0, 3), (1, 3), (2, 26), (3, 37), (4, 38)], .ag [.pv false (.sc (.int .i64 0)), .pv false (.sc (.int .i64 0)), .nl, .nl, .nl]⟩),
  (40, ⟨5, 88, .struct [(0, 3), (1, 3), (2, 26), (3, 37), (4, 38)], .ag [.pv false (.sc (.int .i64 0)), .pv false (.sc (.int .i64 0)), .nl, .nl, .nl]⟩),
  (41, ⟨9, 152, .struct [(0, 3), (1, 26), (2, 3), (3, 40), (8, 37)], .ag [.pv false (.sc (.int .i64 0)), .nl, .pv false (.sc (.int .i64 0)), .pv false (.sc (.int .i64 0)), .pv false (.sc (.int .i64 0)), .nl, .nl, .nl, .nl]⟩),
  (42, ⟨9, 152, .struct [(0, 3), (1, 26), (2, 3), (3, 40), (8, 37)], .ag [.pv false (.sc (.int .i64 0)), .nl, .pv false (.sc (.int .i64 0)), .pv false (.sc (.int .i64 0)), .pv false (.sc (.int .i64 0)), .nl, .nl, .nl, .nl]⟩),
  (43, ⟨1, 8, .other, .pv false (.sc .nilFunc)⟩),
  (44, ⟨1, 8, .other, .pv false (.sc .nilFunc)⟩),
  (45, ⟨1, 24, .slice 47, .nl⟩),
  (46, ⟨5, 88, .struct [(0, 3), (1, 3), (2, 26), (3, 37), (4, 45)], .ag [.pv false (.sc (.int .i64 0)), .pv false (.sc (.int .i64 0)), .nl, .nl, .nl]⟩),
  (47, ⟨5, 88, .struct [(0, 3), (1, 3), (2, 26), (3, 37), (4, 45)], .ag [.pv false (.sc (.int .i64 0)), .pv false (.sc (.int .i64 0)), .nl, .nl, .nl]⟩),
  (48, ⟨9, 152, .struct [(0, 3), (1, 26), (2, 3), (3, 47), (8, 37)], .ag [.pv false (.sc (.int .i64 0)), .nl, .pv false (.sc (.int .i64 0)), .pv false (.sc (.int .i64 0)), .pv false (.sc (.int .i64 0)), .nl, .nl, .nl, .nl]⟩),
  (49, ⟨9, 152, .struct [(0, 3), (1, 26), (2, 3), (3, 47), (8, 37)], .ag [.pv false (.sc (.int .i64 0)), .nl, .pv false (.sc (.int .i64 0)), .pv false (.sc (.int .i64 0)), .pv false (.sc (.int .i64 0)), .nl, .nl, .nl, .nl]⟩),
  (50, ⟨1, 8, .other, .pv false (.sc .nilFunc)⟩),
  (51, ⟨1, 8, .other, .pv false (.sc .nilFunc)⟩),
  (52, ⟨1, 8, .other, .pv false (.sc .nilFunc)⟩),
  (53, ⟨1, 8, .other, .pv false (.sc .nilFunc)⟩),
  (54, ⟨1, 24, .slice 117, .nl⟩),
  (55, ⟨5, 72, .struct [(0, 3), (1, 4), (2, 26), (3, 3), (4, 54)], .ag [.pv false (.sc (.int .i64 0)), .pv false (.sc (.bool false)), .nl, .pv false (.sc (.int .i64 0)), .nl]⟩),
  (56, ⟨5, 72, .struct [(0, 3), (1, 4), (2, 26), (3, 3), (4, 54)], .ag [.pv false (.sc (.int .i64 0)), .pv false (.sc (.bool false)), .nl, .pv false (.sc (.int .i64 0)), .nl]⟩),
  (57, ⟨1, 8, .other, .pv false (.sc .nilFunc)⟩),
  (58, ⟨1, 8, .other, .pv false (.sc .nilFunc)⟩),
  (59, ⟨1, 8, .other, .pv false (.sc .nilFunc)⟩),
  (60, ⟨1, 8, .other, .pv false (.sc .nilFunc)⟩),
  (61, ⟨1, 24, .slice 177, .nl⟩),
  (62, ⟨5, 72, .struct [(0, 3), (1, 4), (2, 26), (3, 3), (4, 61)], .ag [.pv false (.sc (.int .i64 0)), .pv false (.sc (.bool false)), .nl, .pv false (.sc (.int .i64 0)), .nl]⟩),
  (63, ⟨5, 72, .struct [(0, 3), (1, 4), (2, 26), (3, 3), (4, 61)], .ag [.pv false (.sc (.int .i64 0)), .pv false (.sc (.bool false)), .nl, .pv false (.sc (.int .i64 0)), .nl]⟩),
  (64, ⟨1, 8, .other, .pv false (.sc .nilFunc)⟩),
  (65, ⟨1, 8, .other, .pv false (.sc .nilFunc)⟩),
  (66, ⟨1, 8, .other, .pv false (.sc .nilFunc)⟩),
  (67, ⟨1, 8, .other, .pv false (.sc .nilFunc)⟩),
  (68, ⟨1, 8, .other, .pv false (.sc .nilFunc)⟩),
  (70, ⟨1, 8, .other, .pv false (.sc .nilFunc)⟩),
  (71, ⟨1, 8, .other, .pv false (.sc .nilFunc)⟩),
  (72, ⟨1, 8, .other, .pv false (.sc .nilFunc)⟩),
  (73, ⟨1, 8, .other, .pv false (.sc .nilFunc)⟩),
  (75, ⟨1, 8, .other, .pv false (.sc .nilFunc)⟩),
  (76, ⟨1, 8, .other, .pv false (.sc .nilFunc)⟩),
  (78, ⟨1, 8, .other, .pv false (.sc .nilFunc)⟩),
  (79, ⟨1, 24, .slice 42, .nl⟩),
  (80, ⟨7, 104, .struct [(0, 63), (5, 79), (6, 3)], .ag [.pv false (.sc (.int .i64 0)), .pv false (.sc (.bool false)), .nl, .pv false (.sc (.int .i64 0)), .nl, .nl, .pv false (.sc (.int .i64 0))]⟩),
  (81, ⟨7, 104, .struct [(0, 63), (5, 79), (6, 3)], .ag [.pv false (.sc (.int .i64 0)), .pv false (.sc (.bool false)), .nl, .pv false (.sc (.int .i64 0)), .nl, .nl, .pv false (.sc (.int .i64 0))]⟩),
  (82, ⟨1, 8, .other, .pv false (.sc .nilFunc)⟩),
  (83, ⟨1, 8, .other, .pv false (.sc .nilFunc)⟩),
  (84, ⟨1, 24, .slice 49, .nl⟩),
  (85, ⟨7, 104, .struct [(0, 56), (5, 84), (6, 3)], .ag [.pv false (.sc (.int .i64 0)), .pv false (.sc (.bool false)), .nl, .pv false (.sc (.int .i64 0)), .nl, .nl, .pv false (.sc (.int .i64 0))]⟩),
  (86, ⟨7, 104, .struct [(0, 56), (5, 84), (6, 3)], .ag [.pv false (.sc (.int .i64 0)), .pv false (.sc (.bool false)), .nl, .pv false (.sc (.int .i64 0)), .nl, .nl, .pv false (.sc (.int .i64 0))]⟩),
  (87, ⟨1, 8, .other, .pv false (.sc .nilFunc)⟩),
  (88, ⟨1, 8, .other, .pv false (.sc .nilFunc)⟩),
  (89, ⟨1, 8, .other, .pv false (.sc .nilFunc)⟩),
  (90, ⟨1, 8, .other, .pv false (.sc .nilFunc)⟩),
  (92, ⟨1, 8, .other, .pv false (.sc .nilFunc)⟩),
  (93, ⟨1, 8, .other, .pv false (.sc .nilFunc)⟩),
  (94, ⟨9, 152, .struct [(0, 3), (1, 26), (2, 3), (3, 47), (8, 37)], .ag [.pv false (.sc (.int .i64 0)), .nl, .pv false (.sc (.int .i64 0)), .pv false (.sc (.int .i64 0)), .pv false (.sc (.int .i64 0)), .nl, .nl, .nl, .nl]⟩),
  (95, ⟨9, 152, .struct [(0, 3), (1, 26), (2, 3), (3, 47), (8, 37)], .ag [.pv false (.sc (.int .i64 0)), .nl, .pv false (.sc (.int .i64 0)), .pv false (.sc (.int .i64 0)), .pv false (.sc (.int .i64 0)), .nl, .nl, .nl, .nl]⟩),
  (96, ⟨1, 8, .other, .pv false (.sc .nilFunc)⟩),
  (97, ⟨1, 8, .other, .pv false (.sc .nilFunc)⟩),
  (98, ⟨1, 8, .other, .pv false (.sc .nilFunc)⟩),
  (99, ⟨1, 8, .other, .pv false (.sc .nilFunc)⟩),
  (100, ⟨1, 8, .other, .pv false (.sc .nilFunc)⟩),
  (101, ⟨1, 8, .other, .pv false (.sc .nilFunc)⟩),
  (102, ⟨1, 8, .other, .pv false (.sc .nilFunc)⟩),
  (103, ⟨1, 8, .other, .pv false (.sc .nilFunc)⟩),
  (104, ⟨1, 8, .other, .pv false (.sc .nilFunc)⟩),
  (105, ⟨1, 8, .other, .pv false (.sc .nilFunc)⟩),
  (106, ⟨1, 8, .other, .pv false (.sc .nilFunc)⟩),
  (107, ⟨1, 24, .slice 9, .nl⟩),
  (108, ⟨1, 8, .other, .pv false (.sc .nilFunc)⟩),
  (109, ⟨1, 8, .other, .pv false (.sc .nilFunc)⟩),
  (110, ⟨1, 8, .other, .pv false (.sc .nilFunc)⟩),
  (111, ⟨1, 8, .other, .pv false (.sc .nilFunc)⟩),
  (112, ⟨1, 8, .other, .pv false (.sc .nilFunc)⟩),
  (113, ⟨1, 8, .other, .pv false (.sc .nilFunc)⟩),
  (114, ⟨1, 8, .ptr 171, .pv false (.sc (.pointer none))⟩),
  (115, ⟨1, 8, .other, .pv false (.sc .nilFunc)⟩),
  (116, ⟨9, 152, .struct [(0, 26), (1, 47), (6, 37), (7, 4), (8, 3)], .ag [.nl, .pv false (.sc (.int .i64 0)), .pv false (.sc (.int .i64 0)), .nl, .nl, .nl, .nl, .pv false (.sc (.bool false)), .pv false (.sc (.int .i64 0))]⟩),
  (117, ⟨9, 152, .struct [(0, 26), (1, 47), (6, 37), (7, 4), (8, 3)], .ag [.nl, .pv false (.sc (.int .i64 0)), .pv false (.sc (.int .i64 0)), .nl, .nl, .nl, .nl, .pv false (.sc (.bool false)), .pv false (.sc (.int .i64 0))]⟩),
  (118, ⟨1, 8, .other, .pv false (.sc .nilFunc)⟩),
  (119, ⟨1, 8, .other, .pv false (.sc .nilFunc)⟩),
  (120, ⟨1, 8, .other, .pv false (.sc .nilFunc)⟩),
  (121, ⟨1, 8, .other, .pv false (.sc .nilFunc)⟩),
  (122, ⟨1, 8, .other, .pv false (.sc .nilFunc)⟩),
  (123, ⟨1, 8, .other, .pv false (.sc .nilFunc)⟩),
  (124, ⟨1, 8, .other, .pv false (.sc .nilFunc)⟩),
  (125, ⟨1, 8, .other, .pv false (.sc .nilFunc)⟩),
  (126, ⟨1, 8, .other, .pv false (.sc .nilFunc)⟩),
  (127, ⟨1, 8, .other, .pv false (.sc .nilFunc)⟩),
  (128, ⟨1, 8, .other, .pv false (.sc .nilFunc)⟩),
  (129, ⟨1, 8, .other, .pv false (.sc .nilFunc)⟩),
  (130, ⟨1, 8, .other, .pv false (.sc .nilFunc)⟩),
  (131, ⟨1, 8, .other, .pv false (.sc .nilFunc)⟩),
  (132, ⟨1, 8, .other, .pv false (.sc .nilFunc)⟩),
  (133, ⟨1, 8, .other, .pv false (.sc .nilFunc)⟩),
  (134, ⟨1, 8, .other, .pv false (.sc .nilFunc)⟩),
  (135, ⟨1, 8, .other, .pv false (.sc .nilFunc)⟩),
  (136, ⟨1, 8, .other, .pv false (.sc .nilFunc)⟩),
  (137, ⟨1, 8, .other, .pv false (.sc .nilFunc)⟩),
  (138, ⟨1, 8, .other, .pv false (.sc .nilFunc)⟩),
  (139, ⟨1, 8, .other, .pv false (.sc .nilFunc)⟩),
  (140, ⟨1, 8, .ptr 144, .pv false (.sc (.pointer none))⟩),
  (141, ⟨1, 8, .other, .pv false (.sc .nilFunc)⟩),
  (142, ⟨1, 24, .slice 3, .nl⟩),
  (143, ⟨17, 264, .struct [(0, 86), (7, 56), (12, 142), (13, 3), (14, 142), (15, 37), (16, 4)], .ag [.pv false (.sc (.int .i64 0)), .pv false (.sc (.bool false)), .nl, .pv false (.sc (.int .i64 0)), .nl, .nl, .pv false (.sc (.int .i64 0)), .pv false (.sc (.int .i64 0)), .pv false (.sc (.bool false)), .nl, .pv false (.sc (.int .i64 0)), .nl, .nl, .pv false (.sc (.int .i64 0)), .nl, .nl, .pv false (.sc (.bool false))]⟩),
  (144, ⟨17, 264, .struct [(0, 86), (7, 56), (12, 142), (13, 3), (14, 142), (15, 37), (16, 4)], .ag [.pv false (.sc (.int .i64 0)), .pv false (.sc (.bool false)), .nl, .pv false (.sc (.int .i64 0)), .nl, .nl, .pv false (.sc (.int .i64 0)), .pv false (.sc (.int .i64 0)), .pv false (.sc (.bool false)), .nl, .pv false (.sc (.int .i64 0)), .nl, .nl, .pv false (.sc (.int .i64 0)), .nl, .nl, .pv false (.sc (.bool false))]⟩),
  (145, ⟨1, 8, .other, .pv false (.sc .nilFunc)⟩),
  (146, ⟨1, 8, .other, .pv false (.sc .nilFunc)⟩),
  (147, ⟨1, 8, .ptr 151, .pv false (.sc (.pointer none))⟩),
  (148, ⟨1, 8, .other, .pv false (.sc .nilFunc)⟩),
  (149, ⟨1, 8, .other, .pv false (.sc .nilFunc)⟩),
  (150, ⟨16, 256, .struct [(0, 86), (7, 56), (12, 142), (13, 149), (14, 142), (15, 37)], .ag [.pv false (.sc (.int .i64 0)), .pv false (.sc (.bool false)), .nl, .pv false (.sc (.int .i64 0)), .nl, .nl, .pv false (.sc (.int .i64 0)), .pv false (.sc (.int .i64 0)), .pv false (.sc (.bool false)), .nl, .pv false (.sc (.int .i64 0)), .nl, .nl, .pv false (.sc .nilFunc), .nl, .nl]⟩),
  (151, ⟨16, 256, .struct [(0, 86), (7, 56), (12, 142), (13, 149), (14, 142), (15, 37)], .ag [.pv false (.sc (.int .i64 0)), .pv false (.sc (.bool false)), .nl, .pv false (.sc (.int .i64 0)), .nl, .nl, .pv false (.sc (.int .i64 0)), .pv false (.sc (.int .i64 0)), .pv false (.sc (.bool false)), .nl, .pv false (.sc (.int .i64 0)), .nl, .nl, .pv false (.sc .nilFunc), .nl, .nl]⟩),
  (152, ⟨1, 8, .other, .pv false (.sc .nilFunc)⟩),
  (153, ⟨9, 152, .struct [(0, 3), (1, 26), (2, 3), (3, 40), (8, 37)], .ag [.pv false (.sc (.int .i64 0)), .nl, .pv false (.sc (.int .i64 0)), .pv false (.sc (.int .i64 0)), .pv false (.sc (.int .i64 0)), .nl, .nl, .nl, .nl]⟩),
  (154, ⟨9, 152, .struct [(0, 3), (1, 26), (2, 3), (3, 40), (8, 37)], .ag [.pv false (.sc (.int .i64 0)), .nl, .pv false (.sc (.int .i64 0)), .pv false (.sc (.int .i64 0)), .pv false (.sc (.int .i64 0)), .nl, .nl, .nl, .nl]⟩),
  (156, ⟨1, 8, .other, .pv false (.sc .nilFunc)⟩),
  (157, ⟨1, 8, .other, .pv false (.sc .nilFunc)⟩),
  (158, ⟨1, 8, .other, .pv false (.sc .nilFunc)⟩),
  (159, ⟨1, 8, .other, .pv false (.sc .nilFunc)⟩),
  (160, ⟨1, 8, .other, .pv false (.sc .nilFunc)⟩),
  (161, ⟨1, 8, .other, .pv false (.sc .nilFunc)⟩),
  (162, ⟨1, 8, .other, .pv false (.sc .nilFunc)⟩),
  (163, ⟨1, 8, .other, .pv false (.sc .nilFunc)⟩),
  (164, ⟨1, 8, .other, .pv false (.sc .nilFunc)⟩),
  (165, ⟨1, 8, .other, .pv false (.sc .nilFunc)⟩),
  (166, ⟨1, 8, .other, .pv false (.sc .nilFunc)⟩),
  (167, ⟨1, 8, .other, .pv false (.sc .nilFunc)⟩),
  (168, ⟨1, 8, .other, .pv false (.sc .nilFunc)⟩),
  (169, ⟨1, 8, .other, .pv false (.sc .nilFunc)⟩),
  (170, ⟨3, 40, .struct [(0, 26), (1, 3), (2, 3)], .ag [.nl, .pv false (.sc (.int .i64 0)), .pv false (.sc (.int .i64 0))]⟩),
  (171, ⟨3, 40, .struct [(0, 26), (1, 3), (2, 3)], .ag [.nl, .pv false (.sc (.int .i64 0)), .pv false (.sc (.int .i64 0))]⟩),
  (172, ⟨1, 8, .other, .pv false (.sc .nilFunc)⟩),
  (174, ⟨1, 8, .other, .pv false (.sc .nilFunc)⟩),
  (175, ⟨1, 8, .other, .pv false (.sc .nilFunc)⟩),
  (176, ⟨9, 152, .struct [(0, 26), (1, 40), (6, 37), (7, 4), (8, 3)], .ag [.nl, .pv false (.sc (.int .i64 0)), .pv false (.sc (.int .i64 0)), .nl, .nl, .nl, .nl, .pv false (.sc (.bool false)), .pv false (.sc (.int .i64 0))]⟩),
  (177, ⟨9, 152, .struct [(0, 26), (1, 40), (6, 37), (7, 4), (8, 3)], .ag [.nl, .pv false (.sc (.int .i64 0)), .pv false (.sc (.int .i64 0)), .nl, .nl, .nl, .nl, .pv false (.sc (.bool false)), .pv false (.sc (.int .i64 0))]⟩),
  (178, ⟨1, 8, .other, .pv false (.sc .nilFunc)⟩),
  (179, ⟨1, 8, .other, .pv false (.sc .nilFunc)⟩),
  (180, ⟨1, 24, .slice 4, .nl⟩),
  (181, ⟨1, 8, .other, .pv false (.sc .nilFunc)⟩),
  (182, ⟨1, 8, .other, .pv false (.sc .nilFunc)⟩),
  (183, ⟨1, 8, .other, .pv false (.sc .nilFunc)⟩),
  (184, ⟨1, 8, .other, .pv false (.sc .nilFunc)⟩),
  (185, ⟨1, 8, .other, .pv false (.sc .nilFunc)⟩),
  (186, ⟨1, 8, .other, .pv false (.sc .nilFunc)⟩),
  (188, ⟨1, 8, .other, .pv false (.sc .nilFunc)⟩),
  (190, ⟨1, 8, .other, .pv false (.sc .nilFunc)⟩),
  (192, ⟨1, 8, .other, .pv false (.sc .nilFunc)⟩),
  (193, ⟨1, 8, .other, .pv false (.sc .nilFunc)⟩),
  (194, ⟨1, 8, .other, .pv false (.sc .nilFunc)⟩),
  (195, ⟨1, 8, .other, .pv false (.sc .nilFunc)⟩),
  (196, ⟨1, 8, .other, .pv false (.sc .nilFunc)⟩),
  (197, ⟨1, 8, .ptr 56, .pv false (.sc (.pointer none))⟩),
  (198, ⟨1, 8, .other, .pv false (.sc .nilFunc)⟩),
  (200, ⟨1, 8, .other, .pv false (.sc .nilFunc)⟩),
  (201, ⟨1, 24, .slice 56, .nl⟩),
  (203, ⟨1, 8, .other, .pv false (.sc .nilFunc)⟩),
  (204, ⟨1, 8, .other, .pv false (.sc .nilFunc)⟩),
  (205, ⟨1, 8, .other, .pv false (.sc .nilFunc)⟩),
  (206, ⟨1, 8, .other, .pv false (.sc .nilFunc)⟩),
  (207, ⟨1, 8, .other, .pv false (.sc .nilFunc)⟩),
  (208, ⟨1, 8, .other, .pv false (.sc .nilFunc)⟩),
  (209, ⟨1, 8, .other, .pv false (.sc .nilFunc)⟩),
  (210, ⟨1, 16, .ifc, .pv false (.sc .nilIface)⟩),
  (211, ⟨1, 16, .ifc, .pv false (.sc .nilIface)⟩),
  (213, ⟨1, 8, .other, .pv false (.sc .nilFunc)⟩),
  (214, ⟨1, 8, .other, .pv false (.sc .nilFunc)⟩),
  (215, ⟨1, 8, .other, .pv false (.sc .nilFunc)⟩),
  (216, ⟨1, 8, .int .u64, .pv false (.sc (.int .u64 0))⟩),
  (217, ⟨1, 8, .other, .pv false (.sc .nilFunc)⟩),
  (218, ⟨1, 8, .other, .pv false (.sc .nilFunc)⟩),
  (219, ⟨1, 8, .other, .pv false (.sc .nilFunc)⟩),
  (220, ⟨1, 8, .other, .pv false (.sc .nilFunc)⟩),
  (221, ⟨1, 8, .other, .pv false (.sc .nilFunc)⟩),
  (222, ⟨1, 8, .other, .pv false (.sc .nilFunc)⟩),
  (223, ⟨1, 8, .other, .pv false (.sc .nilFunc)⟩),
  (224, ⟨1, 8, .other, .pv false (.sc .nilFunc)⟩),
  (225, ⟨1, 8, .other, .pv false (.sc .nilFunc)⟩),
  (226, ⟨1, 8, .int .u64, .pv false (.sc (.int .u64 0))⟩),
  (227, ⟨1, 8, .other, .pv false (.sc .nilFunc)⟩),
  (228, ⟨1, 8, .other, .pv false (.sc .nilFunc)⟩),
  (229, ⟨1, 8, .other, .pv false (.sc .nilFunc)⟩),
  (230, ⟨1, 8, .other, .pv false (.sc .nilFunc)⟩),
  (231, ⟨24, 24, .arr 24 5, .ar (List.replicate 24 (.sc (.int .u8 0)))⟩),
  (232, ⟨1, 8, .other, .pv false (.sc .nilFunc)⟩),
  (233, ⟨1, 8, .other, .pv false (.sc .nilFunc)⟩),
  (235, ⟨1, 8, .other, .pv false (.sc .nilFunc)⟩),
  (236, ⟨1, 8, .ptr 47, .pv false (.sc (.pointer none))⟩),
  (237, ⟨1, 8, .other, .pv false (.sc .nilFunc)⟩),
  (238, ⟨1, 8, .other, .pv false (.sc .nilFunc)⟩),
  (239, ⟨1, 8, .other, .pv false (.sc .nilFunc)⟩),
  (240, ⟨1, 8, .other, .pv false (.sc .nilFunc)⟩),
  (241, ⟨1, 8, .other, .pv false (.sc .nilFunc)⟩),
  (242, ⟨1, 8, .other, .pv false (.sc .nilFunc)⟩),
  (243, ⟨1, 8, .other, .pv false (.sc .nilFunc)⟩),
  (244, ⟨1, 8, .int .i64, .pv false (.sc (.int .i64 0))⟩),
  (246, ⟨1, 8, .other, .pv false (.sc .nilFunc)⟩),
  (247, ⟨1, 8, .ptr 264, .pv false (.sc (.pointer none))⟩),
  (248, ⟨1, 8, .other, .pv false (.sc .nilFunc)⟩),
  (249, ⟨1, 8, .other, .pv false (.sc .nilFunc)⟩),
  (250, ⟨1, 8, .other, .pv false (.sc .nilFunc)⟩),
  (251, ⟨1, 8, .other, .pv false (.sc .nilFunc)⟩),
  (252, ⟨1, 8, .other, .pv false (.sc .nilFunc)⟩),
  (253, ⟨20, 160, .arr 20 216, .ar (List.replicate 20 (.sc (.int .u64 0)))⟩),
  (254, ⟨1, 4, .int .u32, .pv false (.sc (.int .u32 0))⟩),
  (255, ⟨65, 65, .arr 65 5, .ar (List.replicate 65 (.sc (.int .u8 0)))⟩),
  (256, ⟨1, 8, .other, .pv false (.sc .nilFunc)⟩),
  (257, ⟨1, 8, .other, .pv false (.sc .nilFunc)⟩),
  (259, ⟨1, 8, .other, .pv false (.sc .nilFunc)⟩),
  (261, ⟨1, 8, .other, .pv false (.sc .nilFunc)⟩),
  (262, ⟨1, 8, .other, .pv false (.sc .nilFunc)⟩),
  (263, ⟨3, 48, .struct [(0, 9), (1, 9), (2, 211)], .ag [.pv false (.sc (.string ⟨#[]⟩)), .pv false (.sc (.string ⟨#[]⟩)), .pv false (.sc .nilIface)]⟩),
  (264, ⟨3, 48, .struct [(0, 9), (1, 9), (2, 211)], .ag [.pv false (.sc (.string ⟨#[]⟩)), .pv false (.sc (.string ⟨#[]⟩)), .pv false (.sc .nilIface)]⟩),
  (265, ⟨1, 8, .other, .pv false (.sc .nilFunc)⟩),
  (266, ⟨1, 8, .other, .pv false (.sc .nilFunc)⟩),
  (267, ⟨1, 8, .other, .pv false (.sc .nilFunc)⟩),
  (268, ⟨1, 8, .other, .pv false (.sc .nilFunc)⟩),
  (269, ⟨1, 8, .ptr 5, .pv false (.sc (.pointer none))⟩),
  (270, ⟨1, 8, .ptr 272, .pv false (.sc (.pointer none))⟩),
  (271, ⟨1, 16, .struct [(0, 9)], .ag [.pv false (.sc (.string ⟨#[]⟩))]⟩),
  (272, ⟨1, 16, .struct [(0, 9)], .ag [.pv false (.sc (.string ⟨#[]⟩))]⟩),
  (273, ⟨32, 32, .arr 32 5, .ar (List.replicate 32 (.sc (.int .u8 0)))⟩),
  (274, ⟨64, 64, .arr 64 5, .ar (List.replicate 64 (.sc (.int .u8 0)))⟩),
  (275, ⟨1, 8, .other, .pv false (.sc .nilFunc)⟩),
  (276, ⟨1, 8, .other, .pv false (.sc .nilFunc)⟩),
  (277, ⟨4, 40, .struct [(0, 17), (1, 17), (2, 17), (3, 9)], .ag [.pv false (.sc (.pointer none)), .pv false (.sc (.pointer none)), .pv false (.sc (.pointer none)), .pv false (.sc (.string ⟨#[]⟩))]⟩),
  (278, ⟨4, 40, .struct [(0, 17), (1, 17), (2, 17), (3, 9)], .ag [.pv false (.sc (.pointer none)), .pv false (.sc (.pointer none)), .pv false (.sc (.pointer none)), .pv false (.sc (.string ⟨#[]⟩))]⟩),
  (279, ⟨0, 0, .arr 0 16, .ar []⟩),
  (282, ⟨1, 1, .int .u8, .pv false (.sc (.int .u8 0))⟩),
  (283, ⟨1, 1, .int .u8, .pv false (.sc (.int .u8 0))⟩),
  (284, ⟨1, 8, .other, .pv false (.sc .nilFunc)⟩),
  (285, ⟨1, 4, .int .i32, .pv false (.sc (.int .i32 0))⟩),
  (286, ⟨1, 4, .int .i32, .pv false (.sc (.int .i32 0))⟩),
  (287, ⟨11, 48, .struct [(0, 12), (1, 12), (2, 254), (3, 282), (4, 5), (5, 5), (6, 283), (7, 284), (8, 269), (9, 285), (10, 286)], .ag [.pv false (.sc (.int .u64 0)), .pv false (.sc (.int .u64 0)), .pv false (.sc (.int .u32 0)), .pv false (.sc (.int .u8 0)), .pv false (.sc (.int .u8 0)), .pv false (.sc (.int .u8 0)), .pv false (.sc (.int .u8 0)), .pv false (.sc .nilFunc), .pv false (.sc (.pointer none)), .pv false (.sc (.int .i32 0)), .pv false (.sc (.int .i32 0))]⟩),
  (288, ⟨11, 48, .struct [(0, 12), (1, 12), (2, 254), (3, 282), (4, 5), (5, 5), (6, 283), (7, 284), (8, 269), (9, 285), (10, 286)], .ag [.pv false (.sc (.int .u64 0)), .pv false (.sc (.int .u64 0)), .pv false (.sc (.int .u32 0)), .pv false (.sc (.int .u8 0)), .pv false (.sc (.int .u8 0)), .pv false (.sc (.int .u8 0)), .pv false (.sc (.int .u8 0)), .pv false (.sc .nilFunc), .pv false (.sc (.pointer none)), .pv false (.sc (.int .i32 0)), .pv false (.sc (.int .i32 0))]⟩),
  (289, ⟨1, 8, .other, .pv false (.sc (.pointer none))⟩)]
theorem look_all {α : Type} {f : Nat → α → Bool} : ∀ {l : List (Nat × α)}, (l.all fun x => f x.1 x.2) = true → ∀ {i : Nat} {a : α}, Pm.look l i = some a → f i a = true := by
  intro l
  induction l with
  | nil => intro _ i a h; cases h
  | cons x l ih =>
    intro h i a hl
    simp only [List.all_cons, Bool.and_eq_true] at h
    simp only [Pm.look] at hl
    split at hl
    · rename_i e; cases hl; rw [e]; exact h.1
    · exact ih h.2 hl
theorem tab_ok : (tab.all fun x => tyOk Tryz.prog x.1 x.2) = true := by kernel_rfl
def tyT (t : Nat) : Option TI := Pm.look tab t
def sigs : List (Nat × Sig) := [(80, ⟨[], .any, false⟩), (176, ⟨[true], .d, false⟩), (143, ⟨[true], .d, false⟩), (109, ⟨[true], .d, false⟩), (144, ⟨[true], .d, false⟩), (189, ⟨[], .tu [.d, .d, .d], false⟩), (192, ⟨[], .tu [.d, .d], false⟩), (191, ⟨[], .tu [.d, .d], false⟩), (125, ⟨[], .tu [.d, .d, .d], false⟩), (60, ⟨[], .own 5 1, false⟩), (127, ⟨[], .own 5 1, false⟩), (59, ⟨[], .own 5 1, false⟩), (12, ⟨[], .own 5 1, false⟩), (36, ⟨[], .d, true⟩), (72, ⟨[], .d, true⟩), (138, ⟨[], .d, true⟩), (71, ⟨[], .d, true⟩), (61, ⟨[], .d, true⟩), (128, ⟨[], .d, true⟩), (13, ⟨[], .d, true⟩), (22, ⟨[], .d, true⟩), (113, ⟨[], .d, true⟩), (151, ⟨[], .d, true⟩), (87, ⟨[], .d, true⟩), (32, ⟨[], .d, true⟩), (48, ⟨[], .d, true⟩), (18, ⟨[true], .d, false⟩), (78, ⟨[true], .d, false⟩), (136, ⟨[true], .d, false⟩), (77, ⟨[true], .d, false⟩), (67, ⟨[true], .d, false⟩), (17, ⟨[true], .d, false⟩), (25, ⟨[true], .d, false⟩), (116, ⟨[true], .d, false⟩), (89, ⟨[true], .d, false⟩), (34, ⟨[true], .d, false⟩), (51, ⟨[true], .d, false⟩), (14, ⟨[], .own 5 1, false⟩), (23, ⟨[], .own 5 1, false⟩), (27, ⟨[], .own 5 1, false⟩), (49, ⟨[], .own 5 1, false⟩), (21, ⟨[], .own 5 1, false⟩), (31, ⟨[], .own 5 1, false⟩), (47, ⟨[], .own 5 1, false⟩), (64, ⟨[false, true], .own 5 1, false⟩), (74, ⟨[], .own 5 1, false⟩), (86, ⟨[true], .own 5 1, false⟩), (65, ⟨[true], .own 5 1, false⟩), (134, ⟨[true], .own 5 1, false⟩), (198, ⟨[true], .own 5 1, false⟩), (133, ⟨[true], .own 5 1, false⟩), (197, ⟨[true], .own 5 1, false⟩), (231, ⟨[true], .d, false⟩), (207, ⟨[], .tu [.d, .d], false⟩), (148, ⟨[], .tu [.d, .d], false⟩), (215, ⟨[], .ag [.d, .d, .d, .d, .own 117 9], false⟩), (216, ⟨[], .tu [.d, .d], false⟩), (239, ⟨[true], .d, false⟩), (237, ⟨[true, false, true], .own 117 9, false⟩), (238, ⟨[true], .own 117 9, false⟩), (178, ⟨[], .tu [.d, .d], false⟩), (214, ⟨[], .own 117 9, false⟩), (175, ⟨[true], .d, false⟩), (177, ⟨[], .tu [.d, .d], false⟩), (203, ⟨[true], .d, false⟩), (205, ⟨[true], .d, false⟩), (212, ⟨[true], .d, false⟩), (146, ⟨[true], .d, false⟩), (204, ⟨[true], .d, false⟩), (145, ⟨[true], .d, false⟩), (173, ⟨[true], .d, false⟩), (172, ⟨[true], .d, false⟩), (107, ⟨[true], .d, false⟩), (174, ⟨[true], .d, false⟩), (108, ⟨[true], .d, false⟩), (79, ⟨[true], .d, false⟩), (161, ⟨[true], .d, false⟩)]
def sgOf (f : FuncId) : Sig := (Pm.look sigs f).getD ⟨[], .d, false⟩
/-- The slices of bytes. -/
def bs0 : List Nat := [26]
attribute [simp] bs0
/-! what is known of the library's functions without their code -/
def cmpB : List Int → List Int → Int
  | [], [] => 0
  | [], _ :: _ => -1
  | _ :: _, [] => 1
  | a :: k, b :: l => if a < b then -1 else if b < a then 1 else cmpB k l
/-- Where a byte is first, or -1. -/
def idxB (c : Int) : List Int → Nat → Int
  | [], _ => -1
  | a :: l, i => if a = c then i else idxB c l (i + 1)
def byteOk (l : List Int) : Bool := l.all fun x => decide (0 ≤ x) && decide (x < 256)
def extBB (g : List Int → List Int → TV) : List TV → Hp → Option Res
  | [.pv _ (.sl r), .pv _ (.sl q)], [] => match bytesOf r, bytesOf q with
    | some a, some b => if byteOk a && byteOk b then some (g a b, []) else none
    | _, _ => none
  | _, _ => none
def extBC (g : List Int → Int → TV) : List TV → Hp → Option Res
  | [.pv _ (.sl r), .pv _ (.sc (.int .u8 c))], [] => match bytesOf r with
    | some a => if byteOk a && byteOk [c] then some (g a c, []) else none
    | none => none
  | _, _ => none
def atoiV (s : ByteArray) : TV := match Lib.atoiAll s.data.toList with
  | .ok v => .tu [(.pv false (.sc (.int .i64 v))), .pv false (.sc .nilIface)]
  | .range => .tu [(.pv false (.sc (.int .i64 (Lib.atoiSat s.data.toList)))), .er]
  | _ => .tu [(.pv false (.sc (.int .i64 0))), .er]
def extS (g : ByteArray → TV) : List TV → Hp → Option Res
  | [.pv _ (.sc (.string s))], [] => if s.size ≤ 281474976710656 then some (g s, []) else none
  | _, _ => none
/-- A number's digits. -/
def digN (n : Nat) : List Int := if n < 10 then [48 + (n : Int)] else digN (n / 10) ++ [48 + ((n % 10 : Nat) : Int)]
def extN : List TV → Hp → Option Res
  | [.pv _ (.sc (.int .u64 n))], [] => if 1 ≤ n ∧ n < 18446744073709551616 then some ((.pv false (.sc (.int .i64 (((digN n.toNat).length : Int))))), []) else none
  | _, _ => none
/-- The digits are laid into a row. -/
def extF : List TV → Hp → Option Res
  | [.ref 0 0 len, .pv _ (.sc (.int .u64 n))], [(0, .row .io e 1 rows)] => match bytesOf rows with
    | some ns => if byteOk ns = true ∧ len = (digN n.toNat).length ∧ len ≤ rows.length ∧ 0 ≤ n ∧ n < 18446744073709551616 then some (.tu [], [(0, .row .io e 1 (nums .u8 (digN n.toNat) ++ rows.drop len))]) else none
    | none => none
  | _, _ => none
/-- A row's element is put in. -/
def extI (e k : Nat) : List TV → Hp → Option Res
  | [.ref 0 0 len, .pv _ (.sc (.int .i64 i)), .ref 1 0 1], [(0, .row .io e0 k0 rows), (1, .row .io e1 k1 [x])] => if e0 = e ∧ e1 = e ∧ k0 = k ∧ k1 = k ∧ len = rows.length ∧ 0 ≤ i ∧ i ≤ rows.length ∧ rows.length ≤ 1048576 ∧ x.length = k then some (.ref 16 0 (len + 1), [(0, .dead), (1, .row .io e k [x]), (16, .row .io e k (rows.take i.toNat ++ x :: rows.drop i.toNat))]) else none
  | [.nl, .pv _ (.sc (.int .i64 i)), .ref 0 0 1], [(0, .row .io e1 k1 [x])] => if e1 = e ∧ k1 = k ∧ i = 0 ∧ x.length = k then some (.ref 16 0 1, [(0, .row .io e k [x]), (16, .row .own e k [x])]) else none
  | _, _ => none
/-- What the table of powers holds. -/
def p10 : List Int := [1, 10, 100, 1000, 10000, 100000, 1000000, 10000000, 100000000, 1000000000, 10000000000, 100000000000, 1000000000000, 10000000000000, 100000000000000, 1000000000000000, 10000000000000000, 100000000000000000, 1000000000000000000, 10000000000000000000]
def isExt (f : FuncId) : Bool := f == 147 || f == 240 || f == 193 || f == 230 || f == 231 || f == 237
noncomputable def ext0 (f : FuncId) (ts : List TV) (hp : Hp) : Option Res :=
  bif f == 147 then extBB (fun a b => (.pv false (.sc (.int .i64 (cmpB a b))))) ts hp else
  bif f == 240 then extBC (fun a c => (.pv false (.sc (.int .i64 (idxB c a 0))))) ts hp else
  bif f == 193 then extS atoiV ts hp else
  bif f == 230 then extN ts hp else
  bif f == 231 then extF ts hp else
  bif f == 237 then extI 117 9 ts hp else none
theorem ext0_none {f : FuncId} (h : isExt f = false) (ts : List TV) (hp : Hp) : ext0 f ts hp = none := by
  simp only [isExt, Bool.or_eq_false_iff] at h
  simp [ext0, h]
/-- What the program's variables hold. -/
def gw0 (w : World) : Prop := (∃ t a, w.var? Tryz.prog "strconv.ErrSyntax" = some #[.iface t a]) ∧ (∃ t a, w.var? Tryz.prog "strconv.ErrRange" = some #[.iface t a]) ∧ Lib.TabIs Tryz.prog w "internal/strconv.uint64pow10" .u64 p10
/-- The program without them. -/
noncomputable def Cb : Cfg := ⟨Tryz.prog, tyT, sgOf, fun _ _ _ => none, bs0, 0, fun _ => True⟩
noncomputable def C0 : Cfg := ⟨Tryz.prog, tyT, sgOf, ext0, bs0, Tryz.prog.globals.size, gw0⟩
@[simp] theorem Cb_bs : Cb.bs = bs0 := rfl
@[simp] theorem C0_bs : C0.bs = bs0 := rfl
@[simp] theorem Cb_T : Cb.T = tyT := rfl
@[simp] theorem Cb_sg (f : FuncId) : Cb.sg f = sgOf f := rfl
@[simp] theorem C0_T : C0.T = tyT := rfl
@[simp] theorem C0_sg (f : FuncId) : C0.sg f = sgOf f := rfl
theorem tabOk : TabOk C0 := fun t i h => tyOk_of (look_all (f := tyOk Tryz.prog) tab_ok h)
@[simp] theorem tyT1 : tyT 1 = some ⟨1, 8, .other, .pv false (.sc .nilFunc)⟩ := by kernel_rfl
@[simp] theorem tyT2 : tyT 2 = some ⟨1, 8, .int .i64, .pv false (.sc (.int .i64 0))⟩ := by kernel_rfl
@[simp] theorem tyT3 : tyT 3 = some ⟨1, 8, .int .i64, .pv false (.sc (.int .i64 0))⟩ := by kernel_rfl
@[simp] theorem tyT4 : tyT 4 = some ⟨1, 1, .bool, .pv false (.sc (.bool false))⟩ := by kernel_rfl
@[simp] theorem tyT5 : tyT 5 = some ⟨1, 1, .int .u8, .pv false (.sc (.int .u8 0))⟩ := by kernel_rfl
@[simp] theorem tyT6 : tyT 6 = some ⟨1, 1, .int .u8, .pv false (.sc (.int .u8 0))⟩ := by kernel_rfl
@[simp] theorem tyT7 : tyT 7 = some ⟨4, 24, .struct [(0, 2), (1, 3), (2, 4), (3, 6)], .ag [.pv false (.sc (.int .i64 0)), .pv false (.sc (.int .i64 0)), .pv false (.sc (.bool false)), .pv false (.sc (.int .u8 0))]⟩ := by kernel_rfl
@[simp] theorem tyT8 : tyT 8 = some ⟨4, 24, .struct [(0, 2), (1, 3), (2, 4), (3, 6)], .ag [.pv false (.sc (.int .i64 0)), .pv false (.sc (.int .i64 0)), .pv false (.sc (.bool false)), .pv false (.sc (.int .u8 0))]⟩ := by kernel_rfl
@[simp] theorem tyT9 : tyT 9 = some ⟨1, 16, .str, .pv false (.sc (.string ⟨#[]⟩))⟩ := by kernel_rfl
@[simp] theorem tyT10 : tyT 10 = some ⟨1, 16, .str, .pv false (.sc (.string ⟨#[]⟩))⟩ := by kernel_rfl
@[simp] theorem tyT11 : tyT 11 = some ⟨1, 16, .str, .pv false (.sc (.string ⟨#[]⟩))⟩ := by kernel_rfl
@[simp] theorem tyT12 : tyT 12 = some ⟨1, 8, .int .u64, .pv false (.sc (.int .u64 0))⟩ := by kernel_rfl
@[simp] theorem tyT13 : tyT 13 = some ⟨2, 24, .struct [(0, 9), (1, 12)], .ag [.pv false (.sc (.string ⟨#[]⟩)), .pv false (.sc (.int .u64 0))]⟩ := by kernel_rfl
@[simp] theorem tyT14 : tyT 14 = some ⟨2, 24, .struct [(0, 9), (1, 12)], .ag [.pv false (.sc (.string ⟨#[]⟩)), .pv false (.sc (.int .u64 0))]⟩ := by kernel_rfl
@[simp] theorem tyT15 : tyT 15 = some ⟨1, 8, .ptr 278, .pv false (.sc (.pointer none))⟩ := by kernel_rfl
@[simp] theorem tyT16 : tyT 16 = some ⟨1, 8, .ptr 281, .pv false (.sc (.pointer none))⟩ := by kernel_rfl
@[simp] theorem tyT17 : tyT 17 = some ⟨1, 8, .ptr 288, .pv false (.sc (.pointer none))⟩ := by kernel_rfl
@[simp] theorem tyT18 : tyT 18 = some ⟨1, 8, .struct [(0, 17)], .ag [.pv false (.sc (.pointer none))]⟩ := by kernel_rfl
@[simp] theorem tyT19 : tyT 19 = some ⟨1, 8, .struct [(0, 17)], .ag [.pv false (.sc (.pointer none))]⟩ := by kernel_rfl
@[simp] theorem tyT20 : tyT 20 = some ⟨1, 16, .ifc, .pv false (.sc .nilIface)⟩ := by kernel_rfl
@[simp] theorem tyT21 : tyT 21 = some ⟨1, 4, .int .i32, .pv false (.sc (.int .i32 0))⟩ := by kernel_rfl
@[simp] theorem tyT22 : tyT 22 = some ⟨1, 24, .slice 154, .nl⟩ := by kernel_rfl
@[simp] theorem tyT23 : tyT 23 = some ⟨2, 32, .struct [(0, 22), (1, 3)], .ag [.nl, .pv false (.sc (.int .i64 0))]⟩ := by kernel_rfl
@[simp] theorem tyT24 : tyT 24 = some ⟨2, 32, .struct [(0, 22), (1, 3)], .ag [.nl, .pv false (.sc (.int .i64 0))]⟩ := by kernel_rfl
@[simp] theorem tyT25 : tyT 25 = some ⟨1, 8, .other, .pv false (.sc .nilFunc)⟩ := by kernel_rfl
@[simp] theorem tyT26 : tyT 26 = some ⟨1, 24, .slice 5, .nl⟩ := by kernel_rfl
@[simp] theorem tyT27 : tyT 27 = some ⟨1, 8, .other, .pv false (.sc .nilFunc)⟩ := by kernel_rfl
@[simp] theorem tyT28 : tyT 28 = some ⟨1, 24, .slice 95, .nl⟩ := by kernel_rfl
@[simp] theorem tyT29 : tyT 29 = some ⟨2, 32, .struct [(0, 28), (1, 3)], .ag [.nl, .pv false (.sc (.int .i64 0))]⟩ := by kernel_rfl
@[simp] theorem tyT30 : tyT 30 = some ⟨2, 32, .struct [(0, 28), (1, 3)], .ag [.nl, .pv false (.sc (.int .i64 0))]⟩ := by kernel_rfl
@[simp] theorem tyT31 : tyT 31 = some ⟨1, 8, .other, .pv false (.sc .nilFunc)⟩ := by kernel_rfl
@[simp] theorem tyT32 : tyT 32 = some ⟨1, 8, .other, .pv false (.sc .nilFunc)⟩ := by kernel_rfl
@[simp] theorem tyT33 : tyT 33 = some ⟨1, 8, .other, .pv false (.sc .nilFunc)⟩ := by kernel_rfl
@[simp] theorem tyT34 : tyT 34 = some ⟨1, 8, .other, .pv false (.sc .nilFunc)⟩ := by kernel_rfl
@[simp] theorem tyT35 : tyT 35 = some ⟨1, 8, .other, .pv false (.sc .nilFunc)⟩ := by kernel_rfl
@[simp] theorem tyT36 : tyT 36 = some ⟨1, 8, .other, .pv false (.sc .nilFunc)⟩ := by kernel_rfl
@[simp] theorem tyT37 : tyT 37 = some ⟨1, 24, .slice 26, .nl⟩ := by kernel_rfl
@[simp] theorem tyT38 : tyT 38 = some ⟨1, 24, .slice 40, .nl⟩ := by kernel_rfl
@[simp] theorem tyT39 : tyT 39 = some ⟨5, 88, .struct [(0, 3), (1, 3), (2, 26), (3, 37), (4, 38)], .ag [.pv false (.sc (.int .i64 0)), .pv false (.sc (.int .i64 0)), .nl, .nl, .nl]⟩ := by kernel_rfl
@[simp] theorem tyT40 : tyT 40 = some ⟨5, 88, .struct [(0, 3), (1, 3), (2, 26), (3, 37), (4, 38)], .ag [.pv false (.sc (.int .i64 0)), .pv false (.sc (.int .i64 0)), .nl, .nl, .nl]⟩ := by kernel_rfl
@[simp] theorem tyT41 : tyT 41 = some ⟨9, 152, .struct [(0, 3), (1, 26), (2, 3), (3, 40), (8, 37)], .ag [.pv false (.sc (.int .i64 0)), .nl, .pv false (.sc (.int .i64 0)), .pv false (.sc (.int .i64 0)), .pv false (.sc (.int .i64 0)), .nl, .nl, .nl, .nl]⟩ := by kernel_rfl
@[simp] theorem tyT42 : tyT 42 = some ⟨9, 152, .struct [(0, 3), (1, 26), (2, 3), (3, 40), (8, 37)], .ag [.pv false (.sc (.int .i64 0)), .nl, .pv false (.sc (.int .i64 0)), .pv false (.sc (.int .i64 0)), .pv false (.sc (.int .i64 0)), .nl, .nl, .nl, .nl]⟩ := by kernel_rfl
@[simp] theorem tyT43 : tyT 43 = some ⟨1, 8, .other, .pv false (.sc .nilFunc)⟩ := by kernel_rfl
@[simp] theorem tyT44 : tyT 44 = some ⟨1, 8, .other, .pv false (.sc .nilFunc)⟩ := by kernel_rfl
@[simp] theorem tyT45 : tyT 45 = some ⟨1, 24, .slice 47, .nl⟩ := by kernel_rfl
@[simp] theorem tyT46 : tyT 46 = some ⟨5, 88, .struct [(0, 3), (1, 3), (2, 26), (3, 37), (4, 45)], .ag [.pv false (.sc (.int .i64 0)), .pv false (.sc (.int .i64 0)), .nl, .nl, .nl]⟩ := by kernel_rfl
@[simp] theorem tyT47 : tyT 47 = some ⟨5, 88, .struct [(0, 3), (1, 3), (2, 26), (3, 37), (4, 45)], .ag [.pv false (.sc (.int .i64 0)), .pv false (.sc (.int .i64 0)), .nl, .nl, .nl]⟩ := by kernel_rfl
@[simp] theorem tyT48 : tyT 48 = some ⟨9, 152, .struct [(0, 3), (1, 26), (2, 3), (3, 47), (8, 37)], .ag [.pv false (.sc (.int .i64 0)), .nl, .pv false (.sc (.int .i64 0)), .pv false (.sc (.int .i64 0)), .pv false (.sc (.int .i64 0)), .nl, .nl, .nl, .nl]⟩ := by kernel_rfl
@[simp] theorem tyT49 : tyT 49 = some ⟨9, 152, .struct [(0, 3), (1, 26), (2, 3), (3, 47), (8, 37)], .ag [.pv false (.sc (.int .i64 0)), .nl, .pv false (.sc (.int .i64 0)), .pv false (.sc (.int .i64 0)), .pv false (.sc (.int .i64 0)), .nl, .nl, .nl, .nl]⟩ := by kernel_rfl
@[simp] theorem tyT50 : tyT 50 = some ⟨1, 8, .other, .pv false (.sc .nilFunc)⟩ := by kernel_rfl
@[simp] theorem tyT51 : tyT 51 = some ⟨1, 8, .other, .pv false (.sc .nilFunc)⟩ := by kernel_rfl
@[simp] theorem tyT52 : tyT 52 = some ⟨1, 8, .other, .pv false (.sc .nilFunc)⟩ := by kernel_rfl
@[simp] theorem tyT53 : tyT 53 = some ⟨1, 8, .other, .pv false (.sc .nilFunc)⟩ := by kernel_rfl
@[simp] theorem tyT54 : tyT 54 = some ⟨1, 24, .slice 117, .nl⟩ := by kernel_rfl
@[simp] theorem tyT55 : tyT 55 = some ⟨5, 72, .struct [(0, 3), (1, 4), (2, 26), (3, 3), (4, 54)], .ag [.pv false (.sc (.int .i64 0)), .pv false (.sc (.bool false)), .nl, .pv false (.sc (.int .i64 0)), .nl]⟩ := by kernel_rfl
@[simp] theorem tyT56 : tyT 56 = some ⟨5, 72, .struct [(0, 3), (1, 4), (2, 26), (3, 3), (4, 54)], .ag [.pv false (.sc (.int .i64 0)), .pv false (.sc (.bool false)), .nl, .pv false (.sc (.int .i64 0)), .nl]⟩ := by kernel_rfl
@[simp] theorem tyT57 : tyT 57 = some ⟨1, 8, .other, .pv false (.sc .nilFunc)⟩ := by kernel_rfl
@[simp] theorem tyT58 : tyT 58 = some ⟨1, 8, .other, .pv false (.sc .nilFunc)⟩ := by kernel_rfl
@[simp] theorem tyT59 : tyT 59 = some ⟨1, 8, .other, .pv false (.sc .nilFunc)⟩ := by kernel_rfl
@[simp] theorem tyT60 : tyT 60 = some ⟨1, 8, .other, .pv false (.sc .nilFunc)⟩ := by kernel_rfl
@[simp] theorem tyT61 : tyT 61 = some ⟨1, 24, .slice 177, .nl⟩ := by kernel_rfl
@[simp] theorem tyT62 : tyT 62 = some ⟨5, 72, .struct [(0, 3), (1, 4), (2, 26), (3, 3), (4, 61)], .ag [.pv false (.sc (.int .i64 0)), .pv false (.sc (.bool false)), .nl, .pv false (.sc (.int .i64 0)), .nl]⟩ := by kernel_rfl
@[simp] theorem tyT63 : tyT 63 = some ⟨5, 72, .struct [(0, 3), (1, 4), (2, 26), (3, 3), (4, 61)], .ag [.pv false (.sc (.int .i64 0)), .pv false (.sc (.bool false)), .nl, .pv false (.sc (.int .i64 0)), .nl]⟩ := by kernel_rfl
@[simp] theorem tyT64 : tyT 64 = some ⟨1, 8, .other, .pv false (.sc .nilFunc)⟩ := by kernel_rfl
@[simp] theorem tyT65 : tyT 65 = some ⟨1, 8, .other, .pv false (.sc .nilFunc)⟩ := by kernel_rfl
@[simp] theorem tyT66 : tyT 66 = some ⟨1, 8, .other, .pv false (.sc .nilFunc)⟩ := by kernel_rfl
@[simp] theorem tyT67 : tyT 67 = some ⟨1, 8, .other, .pv false (.sc .nilFunc)⟩ := by kernel_rfl
@[simp] theorem tyT68 : tyT 68 = some ⟨1, 8, .other, .pv false (.sc .nilFunc)⟩ := by kernel_rfl
@[simp] theorem tyT70 : tyT 70 = some ⟨1, 8, .other, .pv false (.sc .nilFunc)⟩ := by kernel_rfl
@[simp] theorem tyT71 : tyT 71 = some ⟨1, 8, .other, .pv false (.sc .nilFunc)⟩ := by kernel_rfl
@[simp] theorem tyT72 : tyT 72 = some ⟨1, 8, .other, .pv false (.sc .nilFunc)⟩ := by kernel_rfl
@[simp] theorem tyT73 : tyT 73 = some ⟨1, 8, .other, .pv false (.sc .nilFunc)⟩ := by kernel_rfl
@[simp] theorem tyT75 : tyT 75 = some ⟨1, 8, .other, .pv false (.sc .nilFunc)⟩ := by kernel_rfl
@[simp] theorem tyT76 : tyT 76 = some ⟨1, 8, .other, .pv false (.sc .nilFunc)⟩ := by kernel_rfl
@[simp] theorem tyT78 : tyT 78 = some ⟨1, 8, .other, .pv false (.sc .nilFunc)⟩ := by kernel_rfl
@[simp] theorem tyT79 : tyT 79 = some ⟨1, 24, .slice 42, .nl⟩ := by kernel_rfl
@[simp] theorem tyT80 : tyT 80 = some ⟨7, 104, .struct [(0, 63), (5, 79), (6, 3)], .ag [.pv false (.sc (.int .i64 0)), .pv false (.sc (.bool false)), .nl, .pv false (.sc (.int .i64 0)), .nl, .nl, .pv false (.sc (.int .i64 0))]⟩ := by kernel_rfl
@[simp] theorem tyT81 : tyT 81 = some ⟨7, 104, .struct [(0, 63), (5, 79), (6, 3)], .ag [.pv false (.sc (.int .i64 0)), .pv false (.sc (.bool false)), .nl, .pv false (.sc (.int .i64 0)), .nl, .nl, .pv false (.sc (.int .i64 0))]⟩ := by kernel_rfl
@[simp] theorem tyT82 : tyT 82 = some ⟨1, 8, .other, .pv false (.sc .nilFunc)⟩ := by kernel_rfl
@[simp] theorem tyT83 : tyT 83 = some ⟨1, 8, .other, .pv false (.sc .nilFunc)⟩ := by kernel_rfl
@[simp] theorem tyT84 : tyT 84 = some ⟨1, 24, .slice 49, .nl⟩ := by kernel_rfl
@[simp] theorem tyT85 : tyT 85 = some ⟨7, 104, .struct [(0, 56), (5, 84), (6, 3)], .ag [.pv false (.sc (.int .i64 0)), .pv false (.sc (.bool false)), .nl, .pv false (.sc (.int .i64 0)), .nl, .nl, .pv false (.sc (.int .i64 0))]⟩ := by kernel_rfl
@[simp] theorem tyT86 : tyT 86 = some ⟨7, 104, .struct [(0, 56), (5, 84), (6, 3)], .ag [.pv false (.sc (.int .i64 0)), .pv false (.sc (.bool false)), .nl, .pv false (.sc (.int .i64 0)), .nl, .nl, .pv false (.sc (.int .i64 0))]⟩ := by kernel_rfl
@[simp] theorem tyT87 : tyT 87 = some ⟨1, 8, .other, .pv false (.sc .nilFunc)⟩ := by kernel_rfl
@[simp] theorem tyT88 : tyT 88 = some ⟨1, 8, .other, .pv false (.sc .nilFunc)⟩ := by kernel_rfl
@[simp] theorem tyT89 : tyT 89 = some ⟨1, 8, .other, .pv false (.sc .nilFunc)⟩ := by kernel_rfl
@[simp] theorem tyT90 : tyT 90 = some ⟨1, 8, .other, .pv false (.sc .nilFunc)⟩ := by kernel_rfl
@[simp] theorem tyT92 : tyT 92 = some ⟨1, 8, .other, .pv false (.sc .nilFunc)⟩ := by kernel_rfl
@[simp] theorem tyT93 : tyT 93 = some ⟨1, 8, .other, .pv false (.sc .nilFunc)⟩ := by kernel_rfl
@[simp] theorem tyT94 : tyT 94 = some ⟨9, 152, .struct [(0, 3), (1, 26), (2, 3), (3, 47), (8, 37)], .ag [.pv false (.sc (.int .i64 0)), .nl, .pv false (.sc (.int .i64 0)), .pv false (.sc (.int .i64 0)), .pv false (.sc (.int .i64 0)), .nl, .nl, .nl, .nl]⟩ := by kernel_rfl
@[simp] theorem tyT95 : tyT 95 = some ⟨9, 152, .struct [(0, 3), (1, 26), (2, 3), (3, 47), (8, 37)], .ag [.pv false (.sc (.int .i64 0)), .nl, .pv false (.sc (.int .i64 0)), .pv false (.sc (.int .i64 0)), .pv false (.sc (.int .i64 0)), .nl, .nl, .nl, .nl]⟩ := by kernel_rfl
@[simp] theorem tyT96 : tyT 96 = some ⟨1, 8, .other, .pv false (.sc .nilFunc)⟩ := by kernel_rfl
@[simp] theorem tyT97 : tyT 97 = some ⟨1, 8, .other, .pv false (.sc .nilFunc)⟩ := by kernel_rfl
@[simp] theorem tyT98 : tyT 98 = some ⟨1, 8, .other, .pv false (.sc .nilFunc)⟩ := by kernel_rfl
@[simp] theorem tyT99 : tyT 99 = some ⟨1, 8, .other, .pv false (.sc .nilFunc)⟩ := by kernel_rfl
@[simp] theorem tyT100 : tyT 100 = some ⟨1, 8, .other, .pv false (.sc .nilFunc)⟩ := by kernel_rfl
@[simp] theorem tyT101 : tyT 101 = some ⟨1, 8, .other, .pv false (.sc .nilFunc)⟩ := by kernel_rfl
@[simp] theorem tyT102 : tyT 102 = some ⟨1, 8, .other, .pv false (.sc .nilFunc)⟩ := by kernel_rfl
@[simp] theorem tyT103 : tyT 103 = some ⟨1, 8, .other, .pv false (.sc .nilFunc)⟩ := by kernel_rfl
@[simp] theorem tyT104 : tyT 104 = some ⟨1, 8, .other, .pv false (.sc .nilFunc)⟩ := by kernel_rfl
@[simp] theorem tyT105 : tyT 105 = some ⟨1, 8, .other, .pv false (.sc .nilFunc)⟩ := by kernel_rfl
@[simp] theorem tyT106 : tyT 106 = some ⟨1, 8, .other, .pv false (.sc .nilFunc)⟩ := by kernel_rfl
@[simp] theorem tyT107 : tyT 107 = some ⟨1, 24, .slice 9, .nl⟩ := by kernel_rfl
@[simp] theorem tyT108 : tyT 108 = some ⟨1, 8, .other, .pv false (.sc .nilFunc)⟩ := by kernel_rfl
@[simp] theorem tyT109 : tyT 109 = some ⟨1, 8, .other, .pv false (.sc .nilFunc)⟩ := by kernel_rfl
@[simp] theorem tyT110 : tyT 110 = some ⟨1, 8, .other, .pv false (.sc .nilFunc)⟩ := by kernel_rfl
@[simp] theorem tyT111 : tyT 111 = some ⟨1, 8, .other, .pv false (.sc .nilFunc)⟩ := by kernel_rfl
@[simp] theorem tyT112 : tyT 112 = some ⟨1, 8, .other, .pv false (.sc .nilFunc)⟩ := by kernel_rfl
@[simp] theorem tyT113 : tyT 113 = some ⟨1, 8, .other, .pv false (.sc .nilFunc)⟩ := by kernel_rfl
@[simp] theorem tyT114 : tyT 114 = some ⟨1, 8, .ptr 171, .pv false (.sc (.pointer none))⟩ := by kernel_rfl
@[simp] theorem tyT115 : tyT 115 = some ⟨1, 8, .other, .pv false (.sc .nilFunc)⟩ := by kernel_rfl
@[simp] theorem tyT116 : tyT 116 = some ⟨9, 152, .struct [(0, 26), (1, 47), (6, 37), (7, 4), (8, 3)], .ag [.nl, .pv false (.sc (.int .i64 0)), .pv false (.sc (.int .i64 0)), .nl, .nl, .nl, .nl, .pv false (.sc (.bool false)), .pv false (.sc (.int .i64 0))]⟩ := by kernel_rfl
@[simp] theorem tyT117 : tyT 117 = some ⟨9, 152, .struct [(0, 26), (1, 47), (6, 37), (7, 4), (8, 3)], .ag [.nl, .pv false (.sc (.int .i64 0)), .pv false (.sc (.int .i64 0)), .nl, .nl, .nl, .nl, .pv false (.sc (.bool false)), .pv false (.sc (.int .i64 0))]⟩ := by kernel_rfl
@[simp] theorem tyT118 : tyT 118 = some ⟨1, 8, .other, .pv false (.sc .nilFunc)⟩ := by kernel_rfl
@[simp] theorem tyT119 : tyT 119 = some ⟨1, 8, .other, .pv false (.sc .nilFunc)⟩ := by kernel_rfl
@[simp] theorem tyT120 : tyT 120 = some ⟨1, 8, .other, .pv false (.sc .nilFunc)⟩ := by kernel_rfl
@[simp] theorem tyT121 : tyT 121 = some ⟨1, 8, .other, .pv false (.sc .nilFunc)⟩ := by kernel_rfl
@[simp] theorem tyT122 : tyT 122 = some ⟨1, 8, .other, .pv false (.sc .nilFunc)⟩ := by kernel_rfl
@[simp] theorem tyT123 : tyT 123 = some ⟨1, 8, .other, .pv false (.sc .nilFunc)⟩ := by kernel_rfl
@[simp] theorem tyT124 : tyT 124 = some ⟨1, 8, .other, .pv false (.sc .nilFunc)⟩ := by kernel_rfl
@[simp] theorem tyT125 : tyT 125 = some ⟨1, 8, .other, .pv false (.sc .nilFunc)⟩ := by kernel_rfl
@[simp] theorem tyT126 : tyT 126 = some ⟨1, 8, .other, .pv false (.sc .nilFunc)⟩ := by kernel_rfl
@[simp] theorem tyT127 : tyT 127 = some ⟨1, 8, .other, .pv false (.sc .nilFunc)⟩ := by kernel_rfl
@[simp] theorem tyT128 : tyT 128 = some ⟨1, 8, .other, .pv false (.sc .nilFunc)⟩ := by kernel_rfl
@[simp] theorem tyT129 : tyT 129 = some ⟨1, 8, .other, .pv false (.sc .nilFunc)⟩ := by kernel_rfl
@[simp] theorem tyT130 : tyT 130 = some ⟨1, 8, .other, .pv false (.sc .nilFunc)⟩ := by kernel_rfl
@[simp] theorem tyT131 : tyT 131 = some ⟨1, 8, .other, .pv false (.sc .nilFunc)⟩ := by kernel_rfl
@[simp] theorem tyT132 : tyT 132 = some ⟨1, 8, .other, .pv false (.sc .nilFunc)⟩ := by kernel_rfl
@[simp] theorem tyT133 : tyT 133 = some ⟨1, 8, .other, .pv false (.sc .nilFunc)⟩ := by kernel_rfl
@[simp] theorem tyT134 : tyT 134 = some ⟨1, 8, .other, .pv false (.sc .nilFunc)⟩ := by kernel_rfl
@[simp] theorem tyT135 : tyT 135 = some ⟨1, 8, .other, .pv false (.sc .nilFunc)⟩ := by kernel_rfl
@[simp] theorem tyT136 : tyT 136 = some ⟨1, 8, .other, .pv false (.sc .nilFunc)⟩ := by kernel_rfl
@[simp] theorem tyT137 : tyT 137 = some ⟨1, 8, .other, .pv false (.sc .nilFunc)⟩ := by kernel_rfl
@[simp] theorem tyT138 : tyT 138 = some ⟨1, 8, .other, .pv false (.sc .nilFunc)⟩ := by kernel_rfl
@[simp] theorem tyT139 : tyT 139 = some ⟨1, 8, .other, .pv false (.sc .nilFunc)⟩ := by kernel_rfl
@[simp] theorem tyT140 : tyT 140 = some ⟨1, 8, .ptr 144, .pv false (.sc (.pointer none))⟩ := by kernel_rfl
@[simp] theorem tyT141 : tyT 141 = some ⟨1, 8, .other, .pv false (.sc .nilFunc)⟩ := by kernel_rfl
@[simp] theorem tyT142 : tyT 142 = some ⟨1, 24, .slice 3, .nl⟩ := by kernel_rfl
@[simp] theorem tyT143 : tyT 143 = some ⟨17, 264, .struct [(0, 86), (7, 56), (12, 142), (13, 3), (14, 142), (15, 37), (16, 4)], .ag [.pv false (.sc (.int .i64 0)), .pv false (.sc (.bool false)), .nl, .pv false (.sc (.int .i64 0)), .nl, .nl, .pv false (.sc (.int .i64 0)), .pv false (.sc (.int .i64 0)), .pv false (.sc (.bool false)), .nl, .pv false (.sc (.int .i64 0)), .nl, .nl, .pv false (.sc (.int .i64 0)), .nl, .nl, .pv false (.sc (.bool false))]⟩ := by kernel_rfl
@[simp] theorem tyT144 : tyT 144 = some ⟨17, 264, .struct [(0, 86), (7, 56), (12, 142), (13, 3), (14, 142), (15, 37), (16, 4)], .ag [.pv false (.sc (.int .i64 0)), .pv false (.sc (.bool false)), .nl, .pv false (.sc (.int .i64 0)), .nl, .nl, .pv false (.sc (.int .i64 0)), .pv false (.sc (.int .i64 0)), .pv false (.sc (.bool false)), .nl, .pv false (.sc (.int .i64 0)), .nl, .nl, .pv false (.sc (.int .i64 0)), .nl, .nl, .pv false (.sc (.bool false))]⟩ := by kernel_rfl
@[simp] theorem tyT145 : tyT 145 = some ⟨1, 8, .other, .pv false (.sc .nilFunc)⟩ := by kernel_rfl
@[simp] theorem tyT146 : tyT 146 = some ⟨1, 8, .other, .pv false (.sc .nilFunc)⟩ := by kernel_rfl
@[simp] theorem tyT147 : tyT 147 = some ⟨1, 8, .ptr 151, .pv false (.sc (.pointer none))⟩ := by kernel_rfl
@[simp] theorem tyT148 : tyT 148 = some ⟨1, 8, .other, .pv false (.sc .nilFunc)⟩ := by kernel_rfl
@[simp] theorem tyT149 : tyT 149 = some ⟨1, 8, .other, .pv false (.sc .nilFunc)⟩ := by kernel_rfl
@[simp] theorem tyT150 : tyT 150 = some ⟨16, 256, .struct [(0, 86), (7, 56), (12, 142), (13, 149), (14, 142), (15, 37)], .ag [.pv false (.sc (.int .i64 0)), .pv false (.sc (.bool false)), .nl, .pv false (.sc (.int .i64 0)), .nl, .nl, .pv false (.sc (.int .i64 0)), .pv false (.sc (.int .i64 0)), .pv false (.sc (.bool false)), .nl, .pv false (.sc (.int .i64 0)), .nl, .nl, .pv false (.sc .nilFunc), .nl, .nl]⟩ := by kernel_rfl
@[simp] theorem tyT151 : tyT 151 = some ⟨16, 256, .struct [(0, 86), (7, 56), (12, 142), (13, 149), (14, 142), (15, 37)], .ag [.pv false (.sc (.int .i64 0)), .pv false (.sc (.bool false)), .nl, .pv false (.sc (.int .i64 0)), .nl, .nl, .pv false (.sc (.int .i64 0)), .pv false (.sc (.int .i64 0)), .pv false (.sc (.bool false)), .nl, .pv false (.sc (.int .i64 0)), .nl, .nl, .pv false (.sc .nilFunc), .nl, .nl]⟩ := by kernel_rfl
@[simp] theorem tyT152 : tyT 152 = some ⟨1, 8, .other, .pv false (.sc .nilFunc)⟩ := by kernel_rfl
@[simp] theorem tyT153 : tyT 153 = some ⟨9, 152, .struct [(0, 3), (1, 26), (2, 3), (3, 40), (8, 37)], .ag [.pv false (.sc (.int .i64 0)), .nl, .pv false (.sc (.int .i64 0)), .pv false (.sc (.int .i64 0)), .pv false (.sc (.int .i64 0)), .nl, .nl, .nl, .nl]⟩ := by kernel_rfl
@[simp] theorem tyT154 : tyT 154 = some ⟨9, 152, .struct [(0, 3), (1, 26), (2, 3), (3, 40), (8, 37)], .ag [.pv false (.sc (.int .i64 0)), .nl, .pv false (.sc (.int .i64 0)), .pv false (.sc (.int .i64 0)), .pv false (.sc (.int .i64 0)), .nl, .nl, .nl, .nl]⟩ := by kernel_rfl
@[simp] theorem tyT156 : tyT 156 = some ⟨1, 8, .other, .pv false (.sc .nilFunc)⟩ := by kernel_rfl
@[simp] theorem tyT157 : tyT 157 = some ⟨1, 8, .other, .pv false (.sc .nilFunc)⟩ := by kernel_rfl
@[simp] theorem tyT158 : tyT 158 = some ⟨1, 8, .other, .pv false (.sc .nilFunc)⟩ := by kernel_rfl
@[simp] theorem tyT159 : tyT 159 = some ⟨1, 8, .other, .pv false (.sc .nilFunc)⟩ := by kernel_rfl
@[simp] theorem tyT160 : tyT 160 = some ⟨1, 8, .other, .pv false (.sc .nilFunc)⟩ := by kernel_rfl
@[simp] theorem tyT161 : tyT 161 = some ⟨1, 8, .other, .pv false (.sc .nilFunc)⟩ := by kernel_rfl
@[simp] theorem tyT162 : tyT 162 = some ⟨1, 8, .other, .pv false (.sc .nilFunc)⟩ := by kernel_rfl
@[simp] theorem tyT163 : tyT 163 = some ⟨1, 8, .other, .pv false (.sc .nilFunc)⟩ := by kernel_rfl
@[simp] theorem tyT164 : tyT 164 = some ⟨1, 8, .other, .pv false (.sc .nilFunc)⟩ := by kernel_rfl
@[simp] theorem tyT165 : tyT 165 = some ⟨1, 8, .other, .pv false (.sc .nilFunc)⟩ := by kernel_rfl
@[simp] theorem tyT166 : tyT 166 = some ⟨1, 8, .other, .pv false (.sc .nilFunc)⟩ := by kernel_rfl
@[simp] theorem tyT167 : tyT 167 = some ⟨1, 8, .other, .pv false (.sc .nilFunc)⟩ := by kernel_rfl
@[simp] theorem tyT168 : tyT 168 = some ⟨1, 8, .other, .pv false (.sc .nilFunc)⟩ := by kernel_rfl
@[simp] theorem tyT169 : tyT 169 = some ⟨1, 8, .other, .pv false (.sc .nilFunc)⟩ := by kernel_rfl
@[simp] theorem tyT170 : tyT 170 = some ⟨3, 40, .struct [(0, 26), (1, 3), (2, 3)], .ag [.nl, .pv false (.sc (.int .i64 0)), .pv false (.sc (.int .i64 0))]⟩ := by kernel_rfl
@[simp] theorem tyT171 : tyT 171 = some ⟨3, 40, .struct [(0, 26), (1, 3), (2, 3)], .ag [.nl, .pv false (.sc (.int .i64 0)), .pv false (.sc (.int .i64 0))]⟩ := by kernel_rfl
@[simp] theorem tyT172 : tyT 172 = some ⟨1, 8, .other, .pv false (.sc .nilFunc)⟩ := by kernel_rfl
@[simp] theorem tyT174 : tyT 174 = some ⟨1, 8, .other, .pv false (.sc .nilFunc)⟩ := by kernel_rfl
@[simp] theorem tyT175 : tyT 175 = some ⟨1, 8, .other, .pv false (.sc .nilFunc)⟩ := by kernel_rfl
@[simp] theorem tyT176 : tyT 176 = some ⟨9, 152, .struct [(0, 26), (1, 40), (6, 37), (7, 4), (8, 3)], .ag [.nl, .pv false (.sc (.int .i64 0)), .pv false (.sc (.int .i64 0)), .nl, .nl, .nl, .nl, .pv false (.sc (.bool false)), .pv false (.sc (.int .i64 0))]⟩ := by kernel_rfl
@[simp] theorem tyT177 : tyT 177 = some ⟨9, 152, .struct [(0, 26), (1, 40), (6, 37), (7, 4), (8, 3)], .ag [.nl, .pv false (.sc (.int .i64 0)), .pv false (.sc (.int .i64 0)), .nl, .nl, .nl, .nl, .pv false (.sc (.bool false)), .pv false (.sc (.int .i64 0))]⟩ := by kernel_rfl
@[simp] theorem tyT178 : tyT 178 = some ⟨1, 8, .other, .pv false (.sc .nilFunc)⟩ := by kernel_rfl
@[simp] theorem tyT179 : tyT 179 = some ⟨1, 8, .other, .pv false (.sc .nilFunc)⟩ := by kernel_rfl
@[simp] theorem tyT180 : tyT 180 = some ⟨1, 24, .slice 4, .nl⟩ := by kernel_rfl
@[simp] theorem tyT181 : tyT 181 = some ⟨1, 8, .other, .pv false (.sc .nilFunc)⟩ := by kernel_rfl
@[simp] theorem tyT182 : tyT 182 = some ⟨1, 8, .other, .pv false (.sc .nilFunc)⟩ := by kernel_rfl
@[simp] theorem tyT183 : tyT 183 = some ⟨1, 8, .other, .pv false (.sc .nilFunc)⟩ := by kernel_rfl
@[simp] theorem tyT184 : tyT 184 = some ⟨1, 8, .other, .pv false (.sc .nilFunc)⟩ := by kernel_rfl
@[simp] theorem tyT185 : tyT 185 = some ⟨1, 8, .other, .pv false (.sc .nilFunc)⟩ := by kernel_rfl
@[simp] theorem tyT186 : tyT 186 = some ⟨1, 8, .other, .pv false (.sc .nilFunc)⟩ := by kernel_rfl
@[simp] theorem tyT188 : tyT 188 = some ⟨1, 8, .other, .pv false (.sc .nilFunc)⟩ := by kernel_rfl
@[simp] theorem tyT190 : tyT 190 = some ⟨1, 8, .other, .pv false (.sc .nilFunc)⟩ := by kernel_rfl
@[simp] theorem tyT192 : tyT 192 = some ⟨1, 8, .other, .pv false (.sc .nilFunc)⟩ := by kernel_rfl
@[simp] theorem tyT193 : tyT 193 = some ⟨1, 8, .other, .pv false (.sc .nilFunc)⟩ := by kernel_rfl
@[simp] theorem tyT194 : tyT 194 = some ⟨1, 8, .other, .pv false (.sc .nilFunc)⟩ := by kernel_rfl
@[simp] theorem tyT195 : tyT 195 = some ⟨1, 8, .other, .pv false (.sc .nilFunc)⟩ := by kernel_rfl
@[simp] theorem tyT196 : tyT 196 = some ⟨1, 8, .other, .pv false (.sc .nilFunc)⟩ := by kernel_rfl
@[simp] theorem tyT197 : tyT 197 = some ⟨1, 8, .ptr 56, .pv false (.sc (.pointer none))⟩ := by kernel_rfl
@[simp] theorem tyT198 : tyT 198 = some ⟨1, 8, .other, .pv false (.sc .nilFunc)⟩ := by kernel_rfl
@[simp] theorem tyT200 : tyT 200 = some ⟨1, 8, .other, .pv false (.sc .nilFunc)⟩ := by kernel_rfl
@[simp] theorem tyT201 : tyT 201 = some ⟨1, 24, .slice 56, .nl⟩ := by kernel_rfl
@[simp] theorem tyT203 : tyT 203 = some ⟨1, 8, .other, .pv false (.sc .nilFunc)⟩ := by kernel_rfl
@[simp] theorem tyT204 : tyT 204 = some ⟨1, 8, .other, .pv false (.sc .nilFunc)⟩ := by kernel_rfl
@[simp] theorem tyT205 : tyT 205 = some ⟨1, 8, .other, .pv false (.sc .nilFunc)⟩ := by kernel_rfl
@[simp] theorem tyT206 : tyT 206 = some ⟨1, 8, .other, .pv false (.sc .nilFunc)⟩ := by kernel_rfl
@[simp] theorem tyT207 : tyT 207 = some ⟨1, 8, .other, .pv false (.sc .nilFunc)⟩ := by kernel_rfl
@[simp] theorem tyT208 : tyT 208 = some ⟨1, 8, .other, .pv false (.sc .nilFunc)⟩ := by kernel_rfl
@[simp] theorem tyT209 : tyT 209 = some ⟨1, 8, .other, .pv false (.sc .nilFunc)⟩ := by kernel_rfl
@[simp] theorem tyT210 : tyT 210 = some ⟨1, 16, .ifc, .pv false (.sc .nilIface)⟩ := by kernel_rfl
@[simp] theorem tyT211 : tyT 211 = some ⟨1, 16, .ifc, .pv false (.sc .nilIface)⟩ := by kernel_rfl
@[simp] theorem tyT213 : tyT 213 = some ⟨1, 8, .other, .pv false (.sc .nilFunc)⟩ := by kernel_rfl
@[simp] theorem tyT214 : tyT 214 = some ⟨1, 8, .other, .pv false (.sc .nilFunc)⟩ := by kernel_rfl
@[simp] theorem tyT215 : tyT 215 = some ⟨1, 8, .other, .pv false (.sc .nilFunc)⟩ := by kernel_rfl
@[simp] theorem tyT216 : tyT 216 = some ⟨1, 8, .int .u64, .pv false (.sc (.int .u64 0))⟩ := by kernel_rfl
@[simp] theorem tyT217 : tyT 217 = some ⟨1, 8, .other, .pv false (.sc .nilFunc)⟩ := by kernel_rfl
@[simp] theorem tyT218 : tyT 218 = some ⟨1, 8, .other, .pv false (.sc .nilFunc)⟩ := by kernel_rfl
@[simp] theorem tyT219 : tyT 219 = some ⟨1, 8, .other, .pv false (.sc .nilFunc)⟩ := by kernel_rfl
@[simp] theorem tyT220 : tyT 220 = some ⟨1, 8, .other, .pv false (.sc .nilFunc)⟩ := by kernel_rfl
@[simp] theorem tyT221 : tyT 221 = some ⟨1, 8, .other, .pv false (.sc .nilFunc)⟩ := by kernel_rfl
@[simp] theorem tyT222 : tyT 222 = some ⟨1, 8, .other, .pv false (.sc .nilFunc)⟩ := by kernel_rfl
@[simp] theorem tyT223 : tyT 223 = some ⟨1, 8, .other, .pv false (.sc .nilFunc)⟩ := by kernel_rfl
@[simp] theorem tyT224 : tyT 224 = some ⟨1, 8, .other, .pv false (.sc .nilFunc)⟩ := by kernel_rfl
@[simp] theorem tyT225 : tyT 225 = some ⟨1, 8, .other, .pv false (.sc .nilFunc)⟩ := by kernel_rfl
@[simp] theorem tyT226 : tyT 226 = some ⟨1, 8, .int .u64, .pv false (.sc (.int .u64 0))⟩ := by kernel_rfl
@[simp] theorem tyT227 : tyT 227 = some ⟨1, 8, .other, .pv false (.sc .nilFunc)⟩ := by kernel_rfl
@[simp] theorem tyT228 : tyT 228 = some ⟨1, 8, .other, .pv false (.sc .nilFunc)⟩ := by kernel_rfl
@[simp] theorem tyT229 : tyT 229 = some ⟨1, 8, .other, .pv false (.sc .nilFunc)⟩ := by kernel_rfl
@[simp] theorem tyT230 : tyT 230 = some ⟨1, 8, .other, .pv false (.sc .nilFunc)⟩ := by kernel_rfl
@[simp] theorem tyT231 : tyT 231 = some ⟨24, 24, .arr 24 5, .ar (List.replicate 24 (.sc (.int .u8 0)))⟩ := by kernel_rfl
@[simp] theorem tyT232 : tyT 232 = some ⟨1, 8, .other, .pv false (.sc .nilFunc)⟩ := by kernel_rfl
@[simp] theorem tyT233 : tyT 233 = some ⟨1, 8, .other, .pv false (.sc .nilFunc)⟩ := by kernel_rfl
@[simp] theorem tyT235 : tyT 235 = some ⟨1, 8, .other, .pv false (.sc .nilFunc)⟩ := by kernel_rfl
@[simp] theorem tyT236 : tyT 236 = some ⟨1, 8, .ptr 47, .pv false (.sc (.pointer none))⟩ := by kernel_rfl
@[simp] theorem tyT237 : tyT 237 = some ⟨1, 8, .other, .pv false (.sc .nilFunc)⟩ := by kernel_rfl
@[simp] theorem tyT238 : tyT 238 = some ⟨1, 8, .other, .pv false (.sc .nilFunc)⟩ := by kernel_rfl
@[simp] theorem tyT239 : tyT 239 = some ⟨1, 8, .other, .pv false (.sc .nilFunc)⟩ := by kernel_rfl
@[simp] theorem tyT240 : tyT 240 = some ⟨1, 8, .other, .pv false (.sc .nilFunc)⟩ := by kernel_rfl
@[simp] theorem tyT241 : tyT 241 = some ⟨1, 8, .other, .pv false (.sc .nilFunc)⟩ := by kernel_rfl
@[simp] theorem tyT242 : tyT 242 = some ⟨1, 8, .other, .pv false (.sc .nilFunc)⟩ := by kernel_rfl
@[simp] theorem tyT243 : tyT 243 = some ⟨1, 8, .other, .pv false (.sc .nilFunc)⟩ := by kernel_rfl
@[simp] theorem tyT244 : tyT 244 = some ⟨1, 8, .int .i64, .pv false (.sc (.int .i64 0))⟩ := by kernel_rfl
@[simp] theorem tyT246 : tyT 246 = some ⟨1, 8, .other, .pv false (.sc .nilFunc)⟩ := by kernel_rfl
@[simp] theorem tyT247 : tyT 247 = some ⟨1, 8, .ptr 264, .pv false (.sc (.pointer none))⟩ := by kernel_rfl
@[simp] theorem tyT248 : tyT 248 = some ⟨1, 8, .other, .pv false (.sc .nilFunc)⟩ := by kernel_rfl
@[simp] theorem tyT249 : tyT 249 = some ⟨1, 8, .other, .pv false (.sc .nilFunc)⟩ := by kernel_rfl
@[simp] theorem tyT250 : tyT 250 = some ⟨1, 8, .other, .pv false (.sc .nilFunc)⟩ := by kernel_rfl
@[simp] theorem tyT251 : tyT 251 = some ⟨1, 8, .other, .pv false (.sc .nilFunc)⟩ := by kernel_rfl
@[simp] theorem tyT252 : tyT 252 = some ⟨1, 8, .other, .pv false (.sc .nilFunc)⟩ := by kernel_rfl
@[simp] theorem tyT253 : tyT 253 = some ⟨20, 160, .arr 20 216, .ar (List.replicate 20 (.sc (.int .u64 0)))⟩ := by kernel_rfl
@[simp] theorem tyT254 : tyT 254 = some ⟨1, 4, .int .u32, .pv false (.sc (.int .u32 0))⟩ := by kernel_rfl
@[simp] theorem tyT255 : tyT 255 = some ⟨65, 65, .arr 65 5, .ar (List.replicate 65 (.sc (.int .u8 0)))⟩ := by kernel_rfl
@[simp] theorem tyT256 : tyT 256 = some ⟨1, 8, .other, .pv false (.sc .nilFunc)⟩ := by kernel_rfl
@[simp] theorem tyT257 : tyT 257 = some ⟨1, 8, .other, .pv false (.sc .nilFunc)⟩ := by kernel_rfl
@[simp] theorem tyT259 : tyT 259 = some ⟨1, 8, .other, .pv false (.sc .nilFunc)⟩ := by kernel_rfl
@[simp] theorem tyT261 : tyT 261 = some ⟨1, 8, .other, .pv false (.sc .nilFunc)⟩ := by kernel_rfl
@[simp] theorem tyT262 : tyT 262 = some ⟨1, 8, .other, .pv false (.sc .nilFunc)⟩ := by kernel_rfl
@[simp] theorem tyT263 : tyT 263 = some ⟨3, 48, .struct [(0, 9), (1, 9), (2, 211)], .ag [.pv false (.sc (.string ⟨#[]⟩)), .pv false (.sc (.string ⟨#[]⟩)), .pv false (.sc .nilIface)]⟩ := by kernel_rfl
@[simp] theorem tyT264 : tyT 264 = some ⟨3, 48, .struct [(0, 9), (1, 9), (2, 211)], .ag [.pv false (.sc (.string ⟨#[]⟩)), .pv false (.sc (.string ⟨#[]⟩)), .pv false (.sc .nilIface)]⟩ := by kernel_rfl
@[simp] theorem tyT265 : tyT 265 = some ⟨1, 8, .other, .pv false (.sc .nilFunc)⟩ := by kernel_rfl
@[simp] theorem tyT266 : tyT 266 = some ⟨1, 8, .other, .pv false (.sc .nilFunc)⟩ := by kernel_rfl
@[simp] theorem tyT267 : tyT 267 = some ⟨1, 8, .other, .pv false (.sc .nilFunc)⟩ := by kernel_rfl
@[simp] theorem tyT268 : tyT 268 = some ⟨1, 8, .other, .pv false (.sc .nilFunc)⟩ := by kernel_rfl
@[simp] theorem tyT269 : tyT 269 = some ⟨1, 8, .ptr 5, .pv false (.sc (.pointer none))⟩ := by kernel_rfl
@[simp] theorem tyT270 : tyT 270 = some ⟨1, 8, .ptr 272, .pv false (.sc (.pointer none))⟩ := by kernel_rfl
@[simp] theorem tyT271 : tyT 271 = some ⟨1, 16, .struct [(0, 9)], .ag [.pv false (.sc (.string ⟨#[]⟩))]⟩ := by kernel_rfl
@[simp] theorem tyT272 : tyT 272 = some ⟨1, 16, .struct [(0, 9)], .ag [.pv false (.sc (.string ⟨#[]⟩))]⟩ := by kernel_rfl
@[simp] theorem tyT273 : tyT 273 = some ⟨32, 32, .arr 32 5, .ar (List.replicate 32 (.sc (.int .u8 0)))⟩ := by kernel_rfl
@[simp] theorem tyT274 : tyT 274 = some ⟨64, 64, .arr 64 5, .ar (List.replicate 64 (.sc (.int .u8 0)))⟩ := by kernel_rfl
@[simp] theorem tyT275 : tyT 275 = some ⟨1, 8, .other, .pv false (.sc .nilFunc)⟩ := by kernel_rfl
@[simp] theorem tyT276 : tyT 276 = some ⟨1, 8, .other, .pv false (.sc .nilFunc)⟩ := by kernel_rfl
@[simp] theorem tyT277 : tyT 277 = some ⟨4, 40, .struct [(0, 17), (1, 17), (2, 17), (3, 9)], .ag [.pv false (.sc (.pointer none)), .pv false (.sc (.pointer none)), .pv false (.sc (.pointer none)), .pv false (.sc (.string ⟨#[]⟩))]⟩ := by kernel_rfl
@[simp] theorem tyT278 : tyT 278 = some ⟨4, 40, .struct [(0, 17), (1, 17), (2, 17), (3, 9)], .ag [.pv false (.sc (.pointer none)), .pv false (.sc (.pointer none)), .pv false (.sc (.pointer none)), .pv false (.sc (.string ⟨#[]⟩))]⟩ := by kernel_rfl
@[simp] theorem tyT279 : tyT 279 = some ⟨0, 0, .arr 0 16, .ar []⟩ := by kernel_rfl
@[simp] theorem tyT282 : tyT 282 = some ⟨1, 1, .int .u8, .pv false (.sc (.int .u8 0))⟩ := by kernel_rfl
@[simp] theorem tyT283 : tyT 283 = some ⟨1, 1, .int .u8, .pv false (.sc (.int .u8 0))⟩ := by kernel_rfl
@[simp] theorem tyT284 : tyT 284 = some ⟨1, 8, .other, .pv false (.sc .nilFunc)⟩ := by kernel_rfl
@[simp] theorem tyT285 : tyT 285 = some ⟨1, 4, .int .i32, .pv false (.sc (.int .i32 0))⟩ := by kernel_rfl
@[simp] theorem tyT286 : tyT 286 = some ⟨1, 4, .int .i32, .pv false (.sc (.int .i32 0))⟩ := by kernel_rfl
@[simp] theorem tyT287 : tyT 287 = some ⟨11, 48, .struct [(0, 12), (1, 12), (2, 254), (3, 282), (4, 5), (5, 5), (6, 283), (7, 284), (8, 269), (9, 285), (10, 286)], .ag [.pv false (.sc (.int .u64 0)), .pv false (.sc (.int .u64 0)), .pv false (.sc (.int .u32 0)), .pv false (.sc (.int .u8 0)), .pv false (.sc (.int .u8 0)), .pv false (.sc (.int .u8 0)), .pv false (.sc (.int .u8 0)), .pv false (.sc .nilFunc), .pv false (.sc (.pointer none)), .pv false (.sc (.int .i32 0)), .pv false (.sc (.int .i32 0))]⟩ := by kernel_rfl
@[simp] theorem tyT288 : tyT 288 = some ⟨11, 48, .struct [(0, 12), (1, 12), (2, 254), (3, 282), (4, 5), (5, 5), (6, 283), (7, 284), (8, 269), (9, 285), (10, 286)], .ag [.pv false (.sc (.int .u64 0)), .pv false (.sc (.int .u64 0)), .pv false (.sc (.int .u32 0)), .pv false (.sc (.int .u8 0)), .pv false (.sc (.int .u8 0)), .pv false (.sc (.int .u8 0)), .pv false (.sc (.int .u8 0)), .pv false (.sc .nilFunc), .pv false (.sc (.pointer none)), .pv false (.sc (.int .i32 0)), .pv false (.sc (.int .i32 0))]⟩ := by kernel_rfl
@[simp] theorem tyT289 : tyT 289 = some ⟨1, 8, .other, .pv false (.sc (.pointer none))⟩ := by kernel_rfl
@[simp] theorem sg3 : sgOf 3 = ⟨[], .d, false⟩ := rfl
@[simp] theorem sg4 : sgOf 4 = ⟨[], .d, false⟩ := rfl
@[simp] theorem sg6 : sgOf 6 = ⟨[], .d, false⟩ := rfl
@[simp] theorem sg9 : sgOf 9 = ⟨[], .d, false⟩ := rfl
@[simp] theorem sg11 : sgOf 11 = ⟨[], .d, false⟩ := rfl
@[simp] theorem sg12 : sgOf 12 = ⟨[], .own 5 1, false⟩ := rfl
@[simp] theorem sg13 : sgOf 13 = ⟨[], .d, true⟩ := rfl
@[simp] theorem sg14 : sgOf 14 = ⟨[], .own 5 1, false⟩ := rfl
@[simp] theorem sg15 : sgOf 15 = ⟨[], .d, false⟩ := rfl
@[simp] theorem sg16 : sgOf 16 = ⟨[], .d, false⟩ := rfl
@[simp] theorem sg17 : sgOf 17 = ⟨[true], .d, false⟩ := rfl
@[simp] theorem sg18 : sgOf 18 = ⟨[true], .d, false⟩ := rfl
@[simp] theorem sg19 : sgOf 19 = ⟨[], .d, false⟩ := rfl
@[simp] theorem sg20 : sgOf 20 = ⟨[], .d, false⟩ := rfl
@[simp] theorem sg21 : sgOf 21 = ⟨[], .own 5 1, false⟩ := rfl
@[simp] theorem sg22 : sgOf 22 = ⟨[], .d, true⟩ := rfl
@[simp] theorem sg23 : sgOf 23 = ⟨[], .own 5 1, false⟩ := rfl
@[simp] theorem sg24 : sgOf 24 = ⟨[], .d, false⟩ := rfl
@[simp] theorem sg25 : sgOf 25 = ⟨[true], .d, false⟩ := rfl
@[simp] theorem sg27 : sgOf 27 = ⟨[], .own 5 1, false⟩ := rfl
@[simp] theorem sg28 : sgOf 28 = ⟨[], .d, false⟩ := rfl
@[simp] theorem sg30 : sgOf 30 = ⟨[], .d, false⟩ := rfl
@[simp] theorem sg31 : sgOf 31 = ⟨[], .own 5 1, false⟩ := rfl
@[simp] theorem sg32 : sgOf 32 = ⟨[], .d, true⟩ := rfl
@[simp] theorem sg33 : sgOf 33 = ⟨[], .d, false⟩ := rfl
@[simp] theorem sg34 : sgOf 34 = ⟨[true], .d, false⟩ := rfl
@[simp] theorem sg36 : sgOf 36 = ⟨[], .d, true⟩ := rfl
@[simp] theorem sg41 : sgOf 41 = ⟨[], .d, false⟩ := rfl
@[simp] theorem sg46 : sgOf 46 = ⟨[], .d, false⟩ := rfl
@[simp] theorem sg47 : sgOf 47 = ⟨[], .own 5 1, false⟩ := rfl
@[simp] theorem sg48 : sgOf 48 = ⟨[], .d, true⟩ := rfl
@[simp] theorem sg49 : sgOf 49 = ⟨[], .own 5 1, false⟩ := rfl
@[simp] theorem sg50 : sgOf 50 = ⟨[], .d, false⟩ := rfl
@[simp] theorem sg51 : sgOf 51 = ⟨[true], .d, false⟩ := rfl
@[simp] theorem sg55 : sgOf 55 = ⟨[], .d, false⟩ := rfl
@[simp] theorem sg56 : sgOf 56 = ⟨[], .d, false⟩ := rfl
@[simp] theorem sg57 : sgOf 57 = ⟨[], .d, false⟩ := rfl
@[simp] theorem sg58 : sgOf 58 = ⟨[], .d, false⟩ := rfl
@[simp] theorem sg59 : sgOf 59 = ⟨[], .own 5 1, false⟩ := rfl
@[simp] theorem sg60 : sgOf 60 = ⟨[], .own 5 1, false⟩ := rfl
@[simp] theorem sg61 : sgOf 61 = ⟨[], .d, true⟩ := rfl
@[simp] theorem sg62 : sgOf 62 = ⟨[], .d, false⟩ := rfl
@[simp] theorem sg63 : sgOf 63 = ⟨[], .d, false⟩ := rfl
@[simp] theorem sg64 : sgOf 64 = ⟨[false, true], .own 5 1, false⟩ := rfl
@[simp] theorem sg65 : sgOf 65 = ⟨[true], .own 5 1, false⟩ := rfl
@[simp] theorem sg66 : sgOf 66 = ⟨[], .d, false⟩ := rfl
@[simp] theorem sg67 : sgOf 67 = ⟨[true], .d, false⟩ := rfl
@[simp] theorem sg68 : sgOf 68 = ⟨[], .d, false⟩ := rfl
@[simp] theorem sg69 : sgOf 69 = ⟨[], .d, false⟩ := rfl
@[simp] theorem sg70 : sgOf 70 = ⟨[], .d, false⟩ := rfl
@[simp] theorem sg71 : sgOf 71 = ⟨[], .d, true⟩ := rfl
@[simp] theorem sg72 : sgOf 72 = ⟨[], .d, true⟩ := rfl
@[simp] theorem sg73 : sgOf 73 = ⟨[], .d, false⟩ := rfl
@[simp] theorem sg74 : sgOf 74 = ⟨[], .own 5 1, false⟩ := rfl
@[simp] theorem sg75 : sgOf 75 = ⟨[], .d, false⟩ := rfl
@[simp] theorem sg76 : sgOf 76 = ⟨[], .d, false⟩ := rfl
@[simp] theorem sg77 : sgOf 77 = ⟨[true], .d, false⟩ := rfl
@[simp] theorem sg78 : sgOf 78 = ⟨[true], .d, false⟩ := rfl
@[simp] theorem sg80 : sgOf 80 = ⟨[], .any, false⟩ := rfl
@[simp] theorem sg81 : sgOf 81 = ⟨[], .d, false⟩ := rfl
@[simp] theorem sg82 : sgOf 82 = ⟨[], .d, false⟩ := rfl
@[simp] theorem sg83 : sgOf 83 = ⟨[], .d, false⟩ := rfl
@[simp] theorem sg84 : sgOf 84 = ⟨[], .d, false⟩ := rfl
@[simp] theorem sg85 : sgOf 85 = ⟨[], .d, false⟩ := rfl
@[simp] theorem sg86 : sgOf 86 = ⟨[true], .own 5 1, false⟩ := rfl
@[simp] theorem sg87 : sgOf 87 = ⟨[], .d, true⟩ := rfl
@[simp] theorem sg88 : sgOf 88 = ⟨[], .d, false⟩ := rfl
@[simp] theorem sg89 : sgOf 89 = ⟨[true], .d, false⟩ := rfl
@[simp] theorem sg92 : sgOf 92 = ⟨[], .d, false⟩ := rfl
@[simp] theorem sg96 : sgOf 96 = ⟨[], .d, false⟩ := rfl
@[simp] theorem sg98 : sgOf 98 = ⟨[], .d, false⟩ := rfl
@[simp] theorem sg99 : sgOf 99 = ⟨[], .d, false⟩ := rfl
@[simp] theorem sg100 : sgOf 100 = ⟨[], .d, false⟩ := rfl
@[simp] theorem sg104 : sgOf 104 = ⟨[], .d, false⟩ := rfl
@[simp] theorem sg111 : sgOf 111 = ⟨[], .d, false⟩ := rfl
@[simp] theorem sg112 : sgOf 112 = ⟨[], .d, false⟩ := rfl
@[simp] theorem sg113 : sgOf 113 = ⟨[], .d, true⟩ := rfl
@[simp] theorem sg114 : sgOf 114 = ⟨[], .d, false⟩ := rfl
@[simp] theorem sg115 : sgOf 115 = ⟨[], .d, false⟩ := rfl
@[simp] theorem sg116 : sgOf 116 = ⟨[true], .d, false⟩ := rfl
@[simp] theorem sg124 : sgOf 124 = ⟨[], .d, false⟩ := rfl
@[simp] theorem sg125 : sgOf 125 = ⟨[], .tu [.d, .d, .d], false⟩ := rfl
@[simp] theorem sg126 : sgOf 126 = ⟨[], .d, false⟩ := rfl
@[simp] theorem sg127 : sgOf 127 = ⟨[], .own 5 1, false⟩ := rfl
@[simp] theorem sg128 : sgOf 128 = ⟨[], .d, true⟩ := rfl
@[simp] theorem sg129 : sgOf 129 = ⟨[], .d, false⟩ := rfl
@[simp] theorem sg130 : sgOf 130 = ⟨[], .d, false⟩ := rfl
@[simp] theorem sg131 : sgOf 131 = ⟨[], .d, false⟩ := rfl
@[simp] theorem sg132 : sgOf 132 = ⟨[], .d, false⟩ := rfl
@[simp] theorem sg133 : sgOf 133 = ⟨[true], .own 5 1, false⟩ := rfl
@[simp] theorem sg134 : sgOf 134 = ⟨[true], .own 5 1, false⟩ := rfl
@[simp] theorem sg135 : sgOf 135 = ⟨[], .d, false⟩ := rfl
@[simp] theorem sg136 : sgOf 136 = ⟨[true], .d, false⟩ := rfl
@[simp] theorem sg137 : sgOf 137 = ⟨[], .d, false⟩ := rfl
@[simp] theorem sg138 : sgOf 138 = ⟨[], .d, true⟩ := rfl
@[simp] theorem sg139 : sgOf 139 = ⟨[], .d, false⟩ := rfl
@[simp] theorem sg140 : sgOf 140 = ⟨[], .d, false⟩ := rfl
@[simp] theorem sg141 : sgOf 141 = ⟨[], .d, false⟩ := rfl
@[simp] theorem sg142 : sgOf 142 = ⟨[], .d, false⟩ := rfl
@[simp] theorem sg147 : sgOf 147 = ⟨[], .d, false⟩ := rfl
@[simp] theorem sg148 : sgOf 148 = ⟨[], .tu [.d, .d], false⟩ := rfl
@[simp] theorem sg149 : sgOf 149 = ⟨[], .d, false⟩ := rfl
@[simp] theorem sg150 : sgOf 150 = ⟨[], .d, false⟩ := rfl
@[simp] theorem sg151 : sgOf 151 = ⟨[], .d, true⟩ := rfl
@[simp] theorem sg152 : sgOf 152 = ⟨[], .d, false⟩ := rfl
@[simp] theorem sg155 : sgOf 155 = ⟨[], .d, false⟩ := rfl
@[simp] theorem sg165 : sgOf 165 = ⟨[], .d, false⟩ := rfl
@[simp] theorem sg175 : sgOf 175 = ⟨[true], .d, false⟩ := rfl
@[simp] theorem sg177 : sgOf 177 = ⟨[], .tu [.d, .d], false⟩ := rfl
@[simp] theorem sg178 : sgOf 178 = ⟨[], .tu [.d, .d], false⟩ := rfl
@[simp] theorem sg186 : sgOf 186 = ⟨[], .d, false⟩ := rfl
@[simp] theorem sg187 : sgOf 187 = ⟨[], .d, false⟩ := rfl
@[simp] theorem sg188 : sgOf 188 = ⟨[], .d, false⟩ := rfl
@[simp] theorem sg189 : sgOf 189 = ⟨[], .tu [.d, .d, .d], false⟩ := rfl
@[simp] theorem sg190 : sgOf 190 = ⟨[], .d, false⟩ := rfl
@[simp] theorem sg191 : sgOf 191 = ⟨[], .tu [.d, .d], false⟩ := rfl
@[simp] theorem sg192 : sgOf 192 = ⟨[], .tu [.d, .d], false⟩ := rfl
@[simp] theorem sg193 : sgOf 193 = ⟨[], .d, false⟩ := rfl
@[simp] theorem sg194 : sgOf 194 = ⟨[], .d, false⟩ := rfl
@[simp] theorem sg195 : sgOf 195 = ⟨[], .d, false⟩ := rfl
@[simp] theorem sg196 : sgOf 196 = ⟨[], .d, false⟩ := rfl
@[simp] theorem sg197 : sgOf 197 = ⟨[true], .own 5 1, false⟩ := rfl
@[simp] theorem sg198 : sgOf 198 = ⟨[true], .own 5 1, false⟩ := rfl
@[simp] theorem sg199 : sgOf 199 = ⟨[], .d, false⟩ := rfl
@[simp] theorem sg200 : sgOf 200 = ⟨[], .d, false⟩ := rfl
@[simp] theorem sg206 : sgOf 206 = ⟨[], .d, false⟩ := rfl
@[simp] theorem sg207 : sgOf 207 = ⟨[], .tu [.d, .d], false⟩ := rfl
@[simp] theorem sg208 : sgOf 208 = ⟨[], .d, false⟩ := rfl
@[simp] theorem sg210 : sgOf 210 = ⟨[], .d, false⟩ := rfl
@[simp] theorem sg211 : sgOf 211 = ⟨[], .d, false⟩ := rfl
@[simp] theorem sg213 : sgOf 213 = ⟨[], .d, false⟩ := rfl
@[simp] theorem sg214 : sgOf 214 = ⟨[], .own 117 9, false⟩ := rfl
@[simp] theorem sg215 : sgOf 215 = ⟨[], .ag [.d, .d, .d, .d, .own 117 9], false⟩ := rfl
@[simp] theorem sg216 : sgOf 216 = ⟨[], .tu [.d, .d], false⟩ := rfl
@[simp] theorem sg219 : sgOf 219 = ⟨[], .d, false⟩ := rfl
@[simp] theorem sg220 : sgOf 220 = ⟨[], .d, false⟩ := rfl
@[simp] theorem sg221 : sgOf 221 = ⟨[], .d, false⟩ := rfl
@[simp] theorem sg222 : sgOf 222 = ⟨[], .d, false⟩ := rfl
@[simp] theorem sg225 : sgOf 225 = ⟨[], .d, false⟩ := rfl
@[simp] theorem sg226 : sgOf 226 = ⟨[], .d, false⟩ := rfl
@[simp] theorem sg227 : sgOf 227 = ⟨[], .d, false⟩ := rfl
@[simp] theorem sg228 : sgOf 228 = ⟨[], .d, false⟩ := rfl
@[simp] theorem sg229 : sgOf 229 = ⟨[], .d, false⟩ := rfl
@[simp] theorem sg230 : sgOf 230 = ⟨[], .d, false⟩ := rfl
@[simp] theorem sg231 : sgOf 231 = ⟨[true], .d, false⟩ := rfl
@[simp] theorem sg233 : sgOf 233 = ⟨[], .d, false⟩ := rfl
@[simp] theorem sg236 : sgOf 236 = ⟨[], .d, false⟩ := rfl
@[simp] theorem sg237 : sgOf 237 = ⟨[true, false, true], .own 117 9, false⟩ := rfl
@[simp] theorem sg238 : sgOf 238 = ⟨[true], .own 117 9, false⟩ := rfl
@[simp] theorem sg239 : sgOf 239 = ⟨[true], .d, false⟩ := rfl
@[simp] theorem sg240 : sgOf 240 = ⟨[], .d, false⟩ := rfl
@[simp] theorem sg249 : sgOf 249 = ⟨[], .d, false⟩ := rfl
@[simp] theorem sg250 : sgOf 250 = ⟨[], .d, false⟩ := rfl
@[simp] theorem sg256 : sgOf 256 = ⟨[], .d, false⟩ := rfl
@[simp] theorem sg258 : sgOf 258 = ⟨[], .d, false⟩ := rfl
theorem mixed : Tryz.prog.follows .mixedOrders = true := by kernel_rfl
theorem names_ok : (Tryz.prog.funcs.all fun fn => !(fn.name == "runtime.NumGoroutine")) = true := by kernel_rfl
theorem dsts_ok : (Tryz.prog.funcs.all fun fn => match fn.body with | some c => codeOk fn.ntmps c | none => true) = true := by kernel_rfl
theorem plan3_10 : plan bs0 ((opsOf 10 (code Tryz.f3)).getD #[]) = some (.lt 0 (.lt 1 (.hv 2 [0] (.hv 3 [] (.lt 4 (.fin)) (.no)) (.no)))) := by kernel_rfl
theorem plan4_10 : plan bs0 ((opsOf 10 (code Tryz.f4)).getD #[]) = some (.lt 0 (.lt 1 (.hv 2 [0] (.hv 3 [] (.lt 4 (.fin)) (.no)) (.no)))) := by kernel_rfl
theorem plan6_10 : plan bs0 ((opsOf 10 (code Tryz.f6)).getD #[]) = some (.lt 0 (.lt 1 (.hv 2 [0] (.hv 3 [] (.lt 4 (.fin)) (.no)) (.no)))) := by kernel_rfl
theorem plan9_10 : plan bs0 ((opsOf 10 (code Tryz.f9)).getD #[]) = some (.lt 0 (.lt 1 (.hv 2 [0] (.hv 3 [] (.lt 4 (.fin)) (.no)) (.no)))) := by kernel_rfl
theorem plan12_10 : plan bs0 ((opsOf 10 (code Tryz.f12)).getD #[]) = some (.lt 0 (.lt 1 (.lt 2 (.lt 7 (.lt 8 (.hv 3 [8, 7, 0] (.hv 4 [8, 7] (.hv 5 [8, 7, 2, 1, 0] (.hv 6 [8, 7] (.hv 9 [] (.lt 10 (.fin)) (.no)) (.no)) (.no)) (.hv 5 [8, 7, 2, 1, 0] (.hv 4 [8, 7] (.hv 6 [8, 7] (.hv 9 [] (.lt 10 (.fin)) (.no)) (.no)) (.no)) (.no))) (.hv 5 [8, 7, 2, 1, 0] (.hv 3 [8, 7, 0] (.hv 4 [8, 7] (.hv 6 [8, 7] (.hv 9 [] (.lt 10 (.fin)) (.no)) (.no)) (.no)) (.no)) (.no)))))))) := by kernel_rfl
theorem plan12_12 : plan bs0 ((opsOf 12 (code Tryz.f12)).getD #[]) = some (.lt 0 (.lt 3 (.lt 4 (.hv 1 [4, 3, 0] (.hv 2 [4, 3] (.hv 5 [] (.hv 6 [] (.lt 7 (.fin)) (.no)) (.no)) (.no)) (.no))))) := by kernel_rfl
theorem plan12_14 : plan bs0 ((opsOf 14 (code Tryz.f12)).getD #[]) = some (.lt 0 (.lt 2 (.lt 3 (.hv 1 [3, 2] (.hv 4 [] (.hv 5 [] (.hv 6 [3, 2, 0] (.hv 7 [] (.lt 8 (.fin)) (.no)) (.no)) (.hv 6 [3, 2, 0] (.hv 5 [] (.hv 7 [] (.lt 8 (.fin)) (.no)) (.no)) (.no))) (.hv 6 [3, 2, 0] (.hv 4 [] (.hv 5 [] (.hv 7 [] (.lt 8 (.fin)) (.no)) (.no)) (.no)) (.no))) (.hv 6 [3, 2, 0] (.hv 1 [3, 2] (.hv 4 [] (.hv 5 [] (.hv 7 [] (.lt 8 (.fin)) (.no)) (.no)) (.no)) (.no)) (.no)))))) := by kernel_rfl
theorem plan14_7 : plan bs0 ((opsOf 7 (code Tryz.f14)).getD #[]) = some (.lt 0 (.lt 1 (.lt 2 (.lt 7 (.lt 8 (.hv 3 [8, 7, 0] (.hv 4 [8, 7] (.hv 5 [8, 7, 2, 1, 0] (.hv 6 [8, 7] (.hv 9 [] (.lt 10 (.fin)) (.no)) (.no)) (.no)) (.hv 5 [8, 7, 2, 1, 0] (.hv 4 [8, 7] (.hv 6 [8, 7] (.hv 9 [] (.lt 10 (.fin)) (.no)) (.no)) (.no)) (.no))) (.hv 5 [8, 7, 2, 1, 0] (.hv 3 [8, 7, 0] (.hv 4 [8, 7] (.hv 6 [8, 7] (.hv 9 [] (.lt 10 (.fin)) (.no)) (.no)) (.no)) (.no)) (.no)))))))) := by kernel_rfl
theorem plan14_9 : plan bs0 ((opsOf 9 (code Tryz.f14)).getD #[]) = some (.lt 0 (.lt 1 (.lt 2 (.hv 3 [2, 1, 0] (.hv 4 [1, 0] (.hv 5 [] (.lt 6 (.fin)) (.no)) (.no)) (.no))))) := by kernel_rfl
theorem plan14_12 : plan bs0 ((opsOf 12 (code Tryz.f14)).getD #[]) = some (.lt 0 (.lt 2 (.lt 3 (.hv 1 [3, 2] (.hv 4 [] (.hv 5 [3, 2, 0] (.hv 6 [] (.lt 7 (.fin)) (.no)) (.no)) (.hv 5 [3, 2, 0] (.hv 4 [] (.hv 6 [] (.lt 7 (.fin)) (.no)) (.no)) (.no))) (.hv 5 [3, 2, 0] (.hv 1 [3, 2] (.hv 4 [] (.hv 6 [] (.lt 7 (.fin)) (.no)) (.no)) (.no)) (.no)))))) := by kernel_rfl
theorem plan15_6 : plan bs0 ((opsOf 6 (code Tryz.f15)).getD #[]) = some (.lt 0 (.lt 1 (.lt 2 (.lt 3 (.lt 4 (.lt 5 (.lt 6 (.lt 7 (.lt 8 (.fin)))))))))) := by kernel_rfl
theorem plan21_5 : plan bs0 ((opsOf 5 (code Tryz.f21)).getD #[]) = some (.lt 0 (.lt 3 (.lt 4 (.hv 1 [4, 3, 0] (.hv 2 [4, 3] (.hv 5 [] (.lt 6 (.fin)) (.no)) (.no)) (.no))))) := by kernel_rfl
theorem plan21_7 : plan bs0 ((opsOf 7 (code Tryz.f21)).getD #[]) = some (.lt 0 (.lt 3 (.lt 4 (.hv 1 [4, 3, 0] (.hv 2 [4, 3] (.hv 5 [] (.hv 6 [] (.lt 7 (.fin)) (.no)) (.no)) (.no)) (.no))))) := by kernel_rfl
theorem plan21_9 : plan bs0 ((opsOf 9 (code Tryz.f21)).getD #[]) = some (.lt 0 (.lt 3 (.lt 4 (.hv 1 [4, 3, 0] (.hv 2 [4, 3] (.hv 5 [] (.hv 6 [] (.lt 7 (.fin)) (.no)) (.no)) (.no)) (.no))))) := by kernel_rfl
theorem plan27_7 : plan bs0 ((opsOf 7 (code Tryz.f27)).getD #[]) = some (.lt 0 (.lt 3 (.lt 4 (.lt 9 (.lt 10 (.hv 1 [10, 9, 4, 3, 0] (.hv 2 [10, 9, 4, 3] (.hv 5 [10, 9] (.hv 6 [10, 9] (.hv 7 [10, 9, 4, 3, 0] (.hv 8 [10, 9] (.hv 11 [] (.lt 12 (.fin)) (.no)) (.no)) (.no)) (.hv 7 [10, 9, 4, 3, 0] (.hv 6 [10, 9] (.hv 8 [10, 9] (.hv 11 [] (.lt 12 (.fin)) (.no)) (.no)) (.no)) (.no))) (.hv 7 [10, 9, 4, 3, 0] (.hv 5 [10, 9] (.hv 6 [10, 9] (.hv 8 [10, 9] (.hv 11 [] (.lt 12 (.fin)) (.no)) (.no)) (.no)) (.no)) (.no))) (.hv 7 [10, 9, 4, 3, 0] (.hv 2 [10, 9, 4, 3] (.hv 5 [10, 9] (.hv 6 [10, 9] (.hv 8 [10, 9] (.hv 11 [] (.lt 12 (.fin)) (.no)) (.no)) (.no)) (.no)) (.no)) (.no))) (.hv 7 [10, 9, 4, 3, 0] (.hv 1 [10, 9, 4, 3, 0] (.hv 2 [10, 9, 4, 3] (.hv 5 [10, 9] (.hv 6 [10, 9] (.hv 8 [10, 9] (.hv 11 [] (.lt 12 (.fin)) (.no)) (.no)) (.no)) (.no)) (.no)) (.no)) (.no)))))))) := by kernel_rfl
theorem plan27_12 : plan bs0 ((opsOf 12 (code Tryz.f27)).getD #[]) = some (.lt 0 (.lt 1 (.lt 2 (.lt 6 (.lt 7 (.hv 3 [7, 6] (.hv 4 [7, 6, 2, 1, 0] (.hv 5 [7, 6] (.hv 8 [] (.lt 9 (.fin)) (.no)) (.no)) (.no)) (.hv 4 [7, 6, 2, 1, 0] (.hv 3 [7, 6] (.hv 5 [7, 6] (.hv 8 [] (.lt 9 (.fin)) (.no)) (.no)) (.no)) (.no)))))))) := by kernel_rfl
theorem plan27_15 : plan bs0 ((opsOf 15 (code Tryz.f27)).getD #[]) = some (.lt 0 (.lt 1 (.lt 2 (.hv 3 [2, 1, 0] (.hv 4 [1, 0] (.hv 5 [] (.hv 6 [2, 1, 0] (.hv 7 [] (.lt 8 (.fin)) (.no)) (.no)) (.hv 6 [2, 1, 0] (.hv 5 [] (.hv 7 [] (.lt 8 (.fin)) (.no)) (.no)) (.no))) (.hv 6 [2, 1, 0] (.hv 4 [1, 0] (.hv 5 [] (.hv 7 [] (.lt 8 (.fin)) (.no)) (.no)) (.no)) (.no))) (.hv 6 [2, 1, 0] (.hv 3 [2, 1, 0] (.hv 4 [1, 0] (.hv 5 [] (.hv 7 [] (.lt 8 (.fin)) (.no)) (.no)) (.no)) (.no)) (.no)))))) := by kernel_rfl
theorem plan28_6 : plan bs0 ((opsOf 6 (code Tryz.f28)).getD #[]) = some (.lt 0 (.lt 1 (.lt 2 (.lt 3 (.lt 4 (.lt 5 (.lt 6 (.lt 7 (.hv 8 [4, 3, 2] (.lt 9 (.lt 10 (.lt 11 (.fin)))) (.no)))))))))) := by kernel_rfl
theorem plan28_12 : plan bs0 ((opsOf 12 (code Tryz.f28)).getD #[]) = some (.lt 0 (.lt 1 (.hv 2 [] (.lt 3 (.lt 4 (.lt 5 (.lt 6 (.hv 7 [] (.lt 8 (.lt 9 (.lt 10 (.lt 11 (.lt 12 (.hv 13 [] (.lt 14 (.lt 15 (.lt 16 (.lt 17 (.lt 18 (.lt 19 (.lt 20 (.lt 21 (.lt 22 (.lt 23 (.lt 24 (.lt 25 (.lt 26 (.lt 27 (.lt 28 (.lt 29 (.lt 30 (.lt 31 (.lt 32 (.lt 33 (.lt 34 (.lt 35 (.lt 36 (.lt 37 (.lt 38 (.lt 39 (.lt 40 (.lt 41 (.lt 42 (.lt 43 (.lt 44 (.lt 45 (.fin))))))))))))))))))))))))))))))))) (.no))))))) (.no)))))) (.no)))) := by kernel_rfl
theorem plan31_7 : plan bs0 ((opsOf 7 (code Tryz.f31)).getD #[]) = some (.lt 0 (.lt 3 (.lt 4 (.lt 9 (.lt 10 (.hv 1 [10, 9, 4, 3, 0] (.hv 2 [10, 9, 4, 3] (.hv 5 [10, 9] (.hv 6 [10, 9] (.hv 7 [10, 9, 4, 3, 0] (.hv 8 [10, 9] (.hv 11 [] (.lt 12 (.fin)) (.no)) (.no)) (.no)) (.hv 7 [10, 9, 4, 3, 0] (.hv 6 [10, 9] (.hv 8 [10, 9] (.hv 11 [] (.lt 12 (.fin)) (.no)) (.no)) (.no)) (.no))) (.hv 7 [10, 9, 4, 3, 0] (.hv 5 [10, 9] (.hv 6 [10, 9] (.hv 8 [10, 9] (.hv 11 [] (.lt 12 (.fin)) (.no)) (.no)) (.no)) (.no)) (.no))) (.hv 7 [10, 9, 4, 3, 0] (.hv 2 [10, 9, 4, 3] (.hv 5 [10, 9] (.hv 6 [10, 9] (.hv 8 [10, 9] (.hv 11 [] (.lt 12 (.fin)) (.no)) (.no)) (.no)) (.no)) (.no)) (.no))) (.hv 7 [10, 9, 4, 3, 0] (.hv 1 [10, 9, 4, 3, 0] (.hv 2 [10, 9, 4, 3] (.hv 5 [10, 9] (.hv 6 [10, 9] (.hv 8 [10, 9] (.hv 11 [] (.lt 12 (.fin)) (.no)) (.no)) (.no)) (.no)) (.no)) (.no)) (.no)))))))) := by kernel_rfl
theorem plan56_1 : plan bs0 ((opsOf 1 (code Tryz.f56)).getD #[]) = some (.lt 0 (.hv 1 [] (.lt 2 (.lt 3 (.lt 4 (.lt 5 (.lt 6 (.lt 7 (.lt 8 (.fin)))))))) (.no))) := by kernel_rfl
theorem plan66_6 : plan bs0 ((opsOf 6 (code Tryz.f66)).getD #[]) = some (.lt 0 (.lt 1 (.lt 2 (.lt 3 (.lt 4 (.lt 5 (.lt 6 (.lt 7 (.hv 8 [] (.lt 9 (.fin)) (.no)))))))))) := by kernel_rfl
theorem plan74_3 : plan bs0 ((opsOf 3 (code Tryz.f74)).getD #[]) = some (.lt 0 (.lt 3 (.lt 4 (.hv 1 [4, 3, 0] (.hv 2 [4, 3] (.hv 5 [] (.lt 6 (.fin)) (.no)) (.no)) (.no))))) := by kernel_rfl
theorem plan74_6 : plan bs0 ((opsOf 6 (code Tryz.f74)).getD #[]) = some (.lt 0 (.lt 3 (.lt 4 (.hv 1 [4, 3, 0] (.hv 2 [4, 3] (.hv 5 [] (.hv 6 [] (.lt 7 (.fin)) (.no)) (.no)) (.no)) (.no))))) := by kernel_rfl
theorem plan74_8 : plan bs0 ((opsOf 8 (code Tryz.f74)).getD #[]) = some (.lt 0 (.lt 1 (.lt 2 (.hv 3 [2, 1, 0] (.hv 4 [1, 0] (.hv 5 [] (.lt 6 (.fin)) (.no)) (.no)) (.no))))) := by kernel_rfl
theorem plan76_6 : plan bs0 ((opsOf 6 (code Tryz.f76)).getD #[]) = some (.lt 0 (.lt 1 (.lt 2 (.lt 3 (.lt 4 (.lt 5 (.lt 6 (.lt 7 (.hv 8 [] (.lt 9 (.fin)) (.no)))))))))) := by kernel_rfl
theorem plan81_6 : plan bs0 ((opsOf 6 (code Tryz.f81)).getD #[]) = some (.lt 0 (.lt 1 (.hv 2 [] (.lt 3 (.lt 4 (.lt 5 (.lt 6 (.lt 7 (.lt 8 (.lt 9 (.lt 10 (.lt 11 (.lt 12 (.lt 13 (.lt 14 (.lt 15 (.lt 16 (.hv 17 [] (.lt 18 (.lt 19 (.lt 20 (.lt 21 (.lt 22 (.lt 23 (.hv 24 [10, 8] (.lt 25 (.lt 26 (.lt 27 (.lt 28 (.lt 29 (.hv 30 [12, 11, 10, 9, 8, 5, 1, 0] (.lt 31 (.lt 32 (.lt 33 (.lt 34 (.lt 35 (.lt 36 (.lt 37 (.hv 38 [19, 18, 16, 15, 14, 13, 12, 11, 10, 9, 8, 7, 6, 5, 4, 3, 1, 0] (.lt 39 (.lt 40 (.fin))) (.no))))))))) (.no))))))) (.no)))))))) (.no)))))))))))))))) (.no)))) := by kernel_rfl
theorem plan81_11 : plan bs0 ((opsOf 11 (code Tryz.f81)).getD #[]) = some (.lt 0 (.lt 1 (.lt 2 (.hv 3 [] (.lt 4 (.lt 5 (.lt 6 (.lt 7 (.lt 8 (.fin)))))) (.no))))) := by kernel_rfl
theorem plan82_4 : plan bs0 ((opsOf 4 (code Tryz.f82)).getD #[]) = some (.lt 0 (.lt 1 (.lt 2 (.lt 3 (.lt 4 (.lt 5 (.lt 6 (.lt 7 (.lt 8 (.lt 9 (.fin))))))))))) := by kernel_rfl
theorem plan84_6 : plan bs0 ((opsOf 6 (code Tryz.f84)).getD #[]) = some (.lt 0 (.lt 1 (.lt 2 (.lt 3 (.hv 4 [] (.lt 5 (.lt 6 (.lt 7 (.lt 8 (.lt 9 (.lt 10 (.lt 11 (.lt 12 (.lt 13 (.lt 14 (.lt 15 (.lt 16 (.lt 17 (.lt 18 (.lt 19 (.lt 20 (.lt 21 (.lt 22 (.lt 23 (.fin)))))))))))))))))))) (.no)))))) := by kernel_rfl
theorem plan86_1 : plan bs0 ((opsOf 1 (code Tryz.f86)).getD #[]) = some (.lt 0 (.lt 1 (.lt 2 (.lt 6 (.lt 7 (.hv 3 [7, 6] (.hv 4 [7, 6, 2, 1, 0] (.hv 5 [7, 6] (.hv 8 [] (.hv 9 [] (.lt 10 (.fin)) (.no)) (.no)) (.no)) (.no)) (.hv 4 [7, 6, 2, 1, 0] (.hv 3 [7, 6] (.hv 5 [7, 6] (.hv 8 [] (.hv 9 [] (.lt 10 (.fin)) (.no)) (.no)) (.no)) (.no)) (.no)))))))) := by kernel_rfl
theorem plan86_4 : plan bs0 ((opsOf 4 (code Tryz.f86)).getD #[]) = some (.lt 0 (.lt 3 (.lt 4 (.hv 1 [4, 3, 0] (.hv 2 [4, 3] (.hv 5 [] (.hv 6 [] (.hv 7 [4, 3, 0] (.hv 8 [] (.lt 9 (.fin)) (.no)) (.no)) (.hv 7 [4, 3, 0] (.hv 6 [] (.hv 8 [] (.lt 9 (.fin)) (.no)) (.no)) (.no))) (.hv 7 [4, 3, 0] (.hv 5 [] (.hv 6 [] (.hv 8 [] (.lt 9 (.fin)) (.no)) (.no)) (.no)) (.no))) (.hv 7 [4, 3, 0] (.hv 2 [4, 3] (.hv 5 [] (.hv 6 [] (.hv 8 [] (.lt 9 (.fin)) (.no)) (.no)) (.no)) (.no)) (.no))) (.hv 7 [4, 3, 0] (.hv 1 [4, 3, 0] (.hv 2 [4, 3] (.hv 5 [] (.hv 6 [] (.hv 8 [] (.lt 9 (.fin)) (.no)) (.no)) (.no)) (.no)) (.no)) (.no)))))) := by kernel_rfl
theorem plan88_6 : plan bs0 ((opsOf 6 (code Tryz.f88)).getD #[]) = some (.lt 0 (.lt 1 (.lt 2 (.lt 3 (.lt 4 (.lt 5 (.lt 6 (.lt 7 (.hv 8 [] (.lt 9 (.fin)) (.no)))))))))) := by kernel_rfl
theorem plan99_1 : plan bs0 ((opsOf 1 (code Tryz.f99)).getD #[]) = some (.lt 0 (.lt 1 (.lt 2 (.lt 3 (.lt 4 (.lt 5 (.lt 7 (.lt 8 (.hv 6 [8, 7, 3, 2, 1, 0] (.hv 9 [3, 2, 1, 0] (.lt 10 (.hv 11 [10, 8, 7, 5, 4, 3, 2, 1, 0] (.hv 12 [] (.fin) (.no)) (.no))) (.hv 11 [8, 7, 5, 4, 3, 2, 1, 0] (.hv 9 [3, 2, 1, 0] (.lt 10 (.hv 12 [] (.fin) (.no))) (.no)) (.no))) (.hv 11 [8, 7, 5, 4, 3, 2, 1, 0] (.hv 6 [8, 7, 3, 2, 1, 0] (.hv 9 [3, 2, 1, 0] (.lt 10 (.hv 12 [] (.fin) (.no))) (.no)) (.no)) (.no))))))))))) := by kernel_rfl
theorem plan99_5 : plan bs0 ((opsOf 5 (code Tryz.f99)).getD #[]) = some (.lt 0 (.lt 1 (.lt 2 (.hv 3 [1, 0] (.hv 4 [1, 0] (.hv 5 [] (.lt 6 (.hv 7 [] (.fin) (.no))) (.no)) (.no)) (.no))))) := by kernel_rfl
theorem plan112_8 : plan bs0 ((opsOf 8 (code Tryz.f112)).getD #[]) = some (.lt 0 (.lt 1 (.lt 2 (.lt 3 (.hv 4 [] (.lt 5 (.lt 6 (.lt 7 (.hv 8 [7, 6, 5, 3, 2, 1, 0] (.hv 9 [7] (.lt 10 (.fin)) (.no)) (.no))))) (.hv 8 [3, 2, 1, 0] (.hv 4 [] (.lt 5 (.lt 6 (.lt 7 (.hv 9 [7] (.lt 10 (.fin)) (.no))))) (.no)) (.no))))))) := by kernel_rfl
theorem plan114_1 : plan bs0 ((opsOf 1 (code Tryz.f114)).getD #[]) = some (.lt 0 (.hv 1 [] (.lt 2 (.lt 3 (.lt 4 (.lt 5 (.lt 6 (.fin)))))) (.no))) := by kernel_rfl
theorem plan115_6 : plan bs0 ((opsOf 6 (code Tryz.f115)).getD #[]) = some (.lt 0 (.lt 1 (.lt 2 (.lt 3 (.lt 4 (.lt 5 (.lt 6 (.lt 7 (.hv 8 [] (.lt 9 (.fin)) (.no)))))))))) := by kernel_rfl
theorem plan125_8 : plan bs0 ((opsOf 8 (code Tryz.f125)).getD #[]) = some (.lt 0 (.lt 1 (.lt 2 (.lt 3 (.lt 4 (.fin)))))) := by kernel_rfl
theorem plan125_16 : plan bs0 ((opsOf 16 (code Tryz.f125)).getD #[]) = some (.lt 0 (.lt 1 (.lt 2 (.lt 3 (.lt 4 (.lt 5 (.lt 6 (.fin)))))))) := by kernel_rfl
theorem plan125_24 : plan bs0 ((opsOf 24 (code Tryz.f125)).getD #[]) = some (.lt 0 (.lt 1 (.lt 2 (.lt 3 (.lt 4 (.lt 5 (.lt 6 (.fin)))))))) := by kernel_rfl
theorem plan126_29 : plan bs0 ((opsOf 29 (code Tryz.f126)).getD #[]) = some (.lt 0 (.lt 1 (.lt 2 (.lt 3 (.lt 4 (.lt 5 (.lt 6 (.lt 7 (.lt 8 (.hv 9 [] (.lt 10 (.lt 11 (.lt 12 (.lt 13 (.lt 14 (.lt 15 (.lt 16 (.lt 17 (.lt 18 (.lt 19 (.lt 20 (.lt 21 (.lt 22 (.lt 23 (.lt 24 (.lt 25 (.lt 26 (.lt 27 (.lt 28 (.lt 29 (.lt 30 (.lt 31 (.fin))))))))))))))))))))))) (.no))))))))))) := by kernel_rfl
theorem plan131_1 : plan bs0 ((opsOf 1 (code Tryz.f131)).getD #[]) = some (.lt 0 (.hv 1 [0] (.hv 2 [0] (.hv 3 [] (.lt 4 (.lt 5 (.lt 6 (.lt 7 (.lt 8 (.lt 9 (.lt 10 (.fin)))))))) (.no)) (.no)) (.no))) := by kernel_rfl
theorem plan131_6 : plan bs0 ((opsOf 6 (code Tryz.f131)).getD #[]) = some (.lt 0 (.hv 1 [0] (.hv 2 [0] (.hv 3 [] (.lt 4 (.lt 5 (.lt 6 (.lt 7 (.lt 8 (.fin)))))) (.no)) (.no)) (.no))) := by kernel_rfl
theorem plan131_7 : plan bs0 ((opsOf 7 (code Tryz.f131)).getD #[]) = some (.lt 0 (.hv 1 [0] (.hv 2 [0] (.hv 3 [] (.lt 4 (.lt 5 (.lt 6 (.lt 7 (.lt 8 (.fin)))))) (.no)) (.no)) (.no))) := by kernel_rfl
theorem plan131_8 : plan bs0 ((opsOf 8 (code Tryz.f131)).getD #[]) = some (.lt 0 (.hv 1 [0] (.hv 2 [0] (.hv 3 [] (.lt 4 (.lt 5 (.lt 6 (.lt 7 (.lt 8 (.fin)))))) (.no)) (.no)) (.no))) := by kernel_rfl
theorem plan131_11 : plan bs0 ((opsOf 11 (code Tryz.f131)).getD #[]) = some (.lt 0 (.lt 1 (.hv 2 [] (.lt 3 (.lt 4 (.lt 5 (.lt 6 (.lt 7 (.fin)))))) (.no)))) := by kernel_rfl
theorem plan131_12 : plan bs0 ((opsOf 12 (code Tryz.f131)).getD #[]) = some (.lt 0 (.lt 1 (.lt 2 (.lt 3 (.lt 4 (.lt 5 (.lt 6 (.hv 7 [] (.lt 8 (.lt 9 (.lt 10 (.lt 12 (.lt 13 (.hv 11 [13, 12] (.lt 14 (.lt 15 (.lt 16 (.fin)))) (.no))))))) (.no))))))))) := by kernel_rfl
theorem plan142_6 : plan bs0 ((opsOf 6 (code Tryz.f142)).getD #[]) = some (.lt 0 (.lt 1 (.lt 2 (.lt 3 (.lt 4 (.lt 5 (.lt 6 (.lt 7 (.hv 8 [] (.lt 9 (.fin)) (.no)))))))))) := by kernel_rfl
theorem plan165_11 : plan bs0 ((opsOf 11 (code Tryz.f165)).getD #[]) = some (.lt 0 (.lt 1 (.lt 2 (.lt 3 (.lt 4 (.lt 5 (.lt 6 (.lt 7 (.lt 8 (.lt 9 (.hv 10 [] (.lt 11 (.fin)) (.no)))))))))))) := by kernel_rfl
theorem plan165_14 : plan bs0 ((opsOf 14 (code Tryz.f165)).getD #[]) = some (.lt 0 (.lt 1 (.lt 2 (.lt 3 (.lt 4 (.lt 5 (.lt 6 (.lt 7 (.lt 8 (.lt 9 (.hv 10 [] (.lt 11 (.fin)) (.no)))))))))))) := by kernel_rfl
theorem plan175_2 : plan bs0 ((opsOf 2 (code Tryz.f175)).getD #[]) = some (.lt 0 (.lt 1 (.lt 2 (.lt 3 (.lt 4 (.lt 5 (.lt 6 (.hv 7 [] (.lt 8 (.fin)) (.no))))))))) := by kernel_rfl
theorem plan175_10 : plan bs0 ((opsOf 10 (code Tryz.f175)).getD #[]) = some (.lt 0 (.lt 1 (.lt 2 (.lt 3 (.lt 4 (.lt 5 (.lt 6 (.lt 7 (.lt 8 (.lt 9 (.lt 10 (.lt 11 (.lt 12 (.lt 13 (.lt 14 (.lt 15 (.hv 16 [0] (.lt 17 (.lt 18 (.hv 19 [] (.fin) (.no)))) (.no)))))))))))))))))) := by kernel_rfl
theorem plan175_12 : plan bs0 ((opsOf 12 (code Tryz.f175)).getD #[]) = some (.lt 0 (.lt 2 (.lt 3 (.lt 4 (.lt 5 (.lt 6 (.lt 7 (.lt 9 (.lt 10 (.lt 11 (.lt 12 (.lt 13 (.lt 14 (.lt 15 (.hv 1 [15, 14, 13, 12, 11, 10, 9, 7, 6, 5, 4, 3, 2, 0] (.hv 8 [15, 14, 13, 12, 11, 10, 9, 0] (.hv 16 [0] (.lt 17 (.lt 18 (.hv 19 [] (.fin) (.no)))) (.no)) (.no)) (.no)))))))))))))))) := by kernel_rfl
theorem plan175_19 : plan bs0 ((opsOf 19 (code Tryz.f175)).getD #[]) = some (.lt 0 (.lt 1 (.lt 2 (.lt 3 (.lt 4 (.lt 5 (.lt 6 (.lt 7 (.lt 8 (.lt 9 (.lt 10 (.hv 11 [] (.fin) (.no))))))))))))) := by kernel_rfl
theorem plan175_21 : plan bs0 ((opsOf 21 (code Tryz.f175)).getD #[]) = some (.lt 0 (.lt 1 (.lt 2 (.lt 3 (.lt 4 (.lt 5 (.lt 6 (.lt 7 (.lt 8 (.lt 9 (.lt 10 (.lt 11 (.lt 12 (.lt 13 (.lt 14 (.hv 15 [0] (.lt 16 (.lt 17 (.hv 18 [] (.fin) (.no)))) (.no))))))))))))))))) := by kernel_rfl
theorem plan177_5 : plan bs0 ((opsOf 5 (code Tryz.f177)).getD #[]) = some (.lt 0 (.lt 1 (.lt 2 (.lt 3 (.lt 4 (.lt 5 (.hv 6 [] (.lt 7 (.fin)) (.no)))))))) := by kernel_rfl
theorem plan178_9 : plan bs0 ((opsOf 9 (code Tryz.f178)).getD #[]) = some (.lt 0 (.lt 1 (.lt 2 (.lt 3 (.lt 4 (.hv 5 [] (.lt 6 (.lt 7 (.lt 8 (.hv 9 [8, 7, 6, 4, 3, 2, 1, 0] (.hv 10 [8] (.lt 11 (.fin)) (.no)) (.no))))) (.hv 9 [4, 3, 2, 1, 0] (.hv 5 [] (.lt 6 (.lt 7 (.lt 8 (.hv 10 [8] (.lt 11 (.fin)) (.no))))) (.no)) (.no)))))))) := by kernel_rfl
theorem plan189_3 : plan bs0 ((opsOf 3 (code Tryz.f189)).getD #[]) = some (.lt 0 (.lt 1 (.lt 2 (.lt 3 (.lt 4 (.lt 5 (.lt 6 (.lt 7 (.lt 8 (.lt 9 (.lt 10 (.lt 11 (.fin))))))))))))) := by kernel_rfl
theorem plan195_3 : plan bs0 ((opsOf 3 (code Tryz.f195)).getD #[]) = some (.lt 0 (.lt 1 (.lt 2 (.lt 3 (.lt 4 (.lt 5 (.lt 6 (.lt 7 (.lt 8 (.lt 9 (.lt 10 (.lt 11 (.lt 12 (.lt 13 (.lt 14 (.lt 15 (.lt 16 (.lt 17 (.lt 18 (.fin)))))))))))))))))))) := by kernel_rfl
theorem plan207_2 : plan bs0 ((opsOf 2 (code Tryz.f207)).getD #[]) = some (.lt 0 (.lt 1 (.lt 2 (.fin)))) := by kernel_rfl
theorem plan207_8 : plan bs0 ((opsOf 8 (code Tryz.f207)).getD #[]) = some (.lt 0 (.lt 1 (.lt 2 (.lt 3 (.lt 4 (.lt 5 (.lt 6 (.lt 7 (.lt 8 (.lt 9 (.lt 10 (.hv 11 [0] (.lt 12 (.lt 13 (.lt 14 (.lt 15 (.fin))))) (.no))))))))))))) := by kernel_rfl
theorem plan214_6 : plan bs0 ((opsOf 6 (code Tryz.f214)).getD #[]) = some (.lt 0 (.lt 1 (.lt 2 (.lt 3 (.lt 4 (.lt 5 (.lt 6 (.hv 7 [] (.lt 8 (.fin)) (.no))))))))) := by kernel_rfl
theorem plan215_1 : plan bs0 ((opsOf 1 (code Tryz.f215)).getD #[]) = some (.lt 0 (.lt 1 (.lt 2 (.lt 3 (.lt 4 (.lt 5 (.lt 7 (.lt 8 (.hv 6 [8, 7, 3, 2, 1, 0] (.lt 9 (.hv 10 [9, 8, 7, 5, 4, 3, 2, 1, 0] (.hv 11 [] (.fin) (.no)) (.no))) (.hv 10 [8, 7, 5, 4, 3, 2, 1, 0] (.hv 6 [8, 7, 3, 2, 1, 0] (.lt 9 (.hv 11 [] (.fin) (.no))) (.no)) (.no))))))))))) := by kernel_rfl
theorem plan215_5 : plan bs0 ((opsOf 5 (code Tryz.f215)).getD #[]) = some (.lt 0 (.lt 1 (.lt 2 (.hv 3 [1, 0] (.hv 4 [1, 0] (.hv 5 [] (.lt 6 (.hv 7 [] (.fin) (.no))) (.no)) (.no)) (.no))))) := by kernel_rfl
theorem plan216_5 : plan bs0 ((opsOf 5 (code Tryz.f216)).getD #[]) = some (.lt 0 (.lt 1 (.lt 2 (.hv 3 [] (.lt 4 (.lt 5 (.lt 6 (.lt 7 (.lt 8 (.fin)))))) (.no))))) := by kernel_rfl
theorem plan216_15 : plan bs0 ((opsOf 15 (code Tryz.f216)).getD #[]) = some (.lt 0 (.lt 1 (.lt 3 (.lt 4 (.lt 6 (.lt 7 (.lt 9 (.lt 10 (.hv 2 [10, 9, 7, 6, 4, 3] (.hv 5 [10, 9, 7, 6] (.hv 8 [10, 9] (.lt 11 (.hv 12 [11, 10, 9, 7, 6, 4, 3, 1, 0] (.hv 13 [] (.fin) (.no)) (.no))) (.hv 12 [10, 9, 7, 6, 4, 3, 1, 0] (.hv 8 [10, 9] (.lt 11 (.hv 13 [] (.fin) (.no))) (.no)) (.no))) (.hv 12 [10, 9, 7, 6, 4, 3, 1, 0] (.hv 5 [10, 9, 7, 6] (.hv 8 [10, 9] (.lt 11 (.hv 13 [] (.fin) (.no))) (.no)) (.no)) (.no))) (.hv 12 [10, 9, 7, 6, 4, 3, 1, 0] (.hv 2 [10, 9, 7, 6, 4, 3] (.hv 5 [10, 9, 7, 6] (.hv 8 [10, 9] (.lt 11 (.hv 13 [] (.fin) (.no))) (.no)) (.no)) (.no)) (.no))))))))))) := by kernel_rfl
theorem plan219_1 : plan bs0 ((opsOf 1 (code Tryz.f219)).getD #[]) = some (.lt 0 (.lt 1 (.lt 2 (.hv 3 [] (.lt 4 (.lt 5 (.lt 6 (.lt 7 (.lt 8 (.fin)))))) (.no))))) := by kernel_rfl
theorem plan236_1 : plan bs0 ((opsOf 1 (code Tryz.f236)).getD #[]) = some (.lt 0 (.lt 1 (.lt 3 (.lt 4 (.lt 6 (.lt 7 (.lt 9 (.lt 10 (.lt 11 (.lt 12 (.hv 2 [12, 11, 10, 9, 7, 6, 4, 3] (.hv 5 [12, 11, 10, 9, 7, 6] (.hv 8 [12, 11, 10, 9] (.lt 13 (.hv 14 [] (.fin) (.no))) (.no)) (.no)) (.no)))))))))))) := by kernel_rfl
theorem plan237_11 : plan bs0 ((opsOf 11 (code Tryz.f237)).getD #[]) = some (.lt 0 (.lt 1 (.lt 2 (.lt 3 (.lt 4 (.lt 5 (.lt 6 (.lt 7 (.hv 8 [] (.fin) (.no)))))))))) := by kernel_rfl
theorem plan237_15 : plan bs0 ((opsOf 15 (code Tryz.f237)).getD #[]) = some (.lt 0 (.lt 1 (.lt 2 (.lt 3 (.lt 4 (.lt 5 (.lt 6 (.lt 7 (.hv 8 [] (.fin) (.no)))))))))) := by kernel_rfl
theorem plan238_5 : plan bs0 ((opsOf 5 (code Tryz.f238)).getD #[]) = some (.lt 0 (.lt 1 (.lt 2 (.lt 3 (.lt 4 (.lt 5 (.hv 6 [] (.lt 7 (.fin)) (.no)))))))) := by kernel_rfl
theorem plan239_1 : plan bs0 ((opsOf 1 (code Tryz.f239)).getD #[]) = some (.lt 0 (.lt 1 (.lt 2 (.lt 3 (.lt 4 (.lt 5 (.lt 6 (.hv 7 [] (.lt 8 (.lt 9 (.lt 10 (.lt 11 (.lt 12 (.fin)))))) (.no))))))))) := by kernel_rfl
theorem plan239_4 : plan bs0 ((opsOf 4 (code Tryz.f239)).getD #[]) = some (.lt 0 (.lt 1 (.lt 2 (.lt 3 (.lt 4 (.lt 5 (.lt 6 (.lt 7 (.lt 8 (.lt 9 (.lt 11 (.hv 10 [11, 5, 4, 3, 2, 1, 0] (.lt 12 (.hv 13 [5, 4, 3, 2, 1, 0] (.hv 14 [0] (.lt 15 (.lt 16 (.hv 17 [] (.fin) (.no)))) (.no)) (.no))) (.no))))))))))))) := by kernel_rfl
theorem plan239_6 : plan bs0 ((opsOf 6 (code Tryz.f239)).getD #[]) = some (.lt 0 (.lt 1 (.lt 2 (.lt 3 (.lt 4 (.lt 5 (.lt 6 (.lt 7 (.lt 8 (.lt 9 (.lt 10 (.hv 11 [] (.fin) (.no))))))))))))) := by kernel_rfl
theorem gl12 : globs Tryz.f12 = [0, 1, 19, 4, 24, 5, 51, 3, 64, 2] := by kernel_rfl
theorem gl14 : globs Tryz.f14 = [0, 1, 8, 13, 12, 14, 11, 5, 3, 29, 2] := by kernel_rfl
theorem gl15 : globs Tryz.f15 = [1, 0, 10, 5, 14, 25, 4] := by kernel_rfl
theorem gl18 : globs Tryz.f18 = [0, 5, 9, 1, 4] := by kernel_rfl
theorem gl19 : globs Tryz.f19 = [0, 5, 9, 1, 18, 4] := by kernel_rfl
theorem gl27 : globs Tryz.f27 = [0, 1, 8, 17, 3, 23, 42, 41, 43, 40, 5, 56, 2] := by kernel_rfl
theorem gl28 : globs Tryz.f28 = [0, 1, 19, 3, 54, 66, 4, 71, 5, 124, 2] := by kernel_rfl
theorem gl31 : globs Tryz.f31 = [0, 1, 7, 17, 3, 23, 4, 43, 2] := by kernel_rfl
theorem gl36 : globs Tryz.f36 = [0, 4, 11, 3, 2] := by kernel_rfl
theorem gl47 : globs Tryz.f47 = [0, 1, 7, 4, 12, 3, 2] := by kernel_rfl
theorem gl49 : globs Tryz.f49 = [0, 1, 8, 13, 12, 14, 11, 4, 3, 5, 2] := by kernel_rfl
theorem gl55 : globs Tryz.f55 = [0, 1, 11, 5, 15, 25, 4] := by kernel_rfl
theorem gl59 : globs Tryz.f59 = [0, 1, 8, 9, 13, 21, 26, 31, 37, 3, 6, 44, 48, 5, 53, 4, 2] := by kernel_rfl
theorem gl61 : globs Tryz.f61 = [0, 4, 11, 3, 2] := by kernel_rfl
theorem gl64 : globs Tryz.f64 = [0, 2, 12, 13, 1, 17, 24, 30, 35, 43, 42, 44, 41, 6, 52, 66, 7, 74, 73, 75, 72, 9, 80, 85, 10, 8, 4] := by kernel_rfl
theorem gl66 : globs Tryz.f66 = [1, 0, 10, 5, 14, 26, 4] := by kernel_rfl
theorem gl67 : globs Tryz.f67 = [0, 5, 9, 1, 4] := by kernel_rfl
theorem gl70 : globs Tryz.f70 = [0, 1, 11, 5, 15, 25, 4] := by kernel_rfl
theorem gl72 : globs Tryz.f72 = [0, 4, 11, 3, 2] := by kernel_rfl
theorem gl76 : globs Tryz.f76 = [1, 0, 10, 5, 14, 26, 4] := by kernel_rfl
theorem gl78 : globs Tryz.f78 = [0, 5, 9, 1, 4] := by kernel_rfl
theorem gl80 : globs Tryz.f80 = [0, 4, 15, 3, 2] := by kernel_rfl
theorem gl81 : globs Tryz.f81 = [0, 1, 16, 20, 19, 21, 18, 4, 3, 65, 70, 6, 2] := by kernel_rfl
theorem gl82 : globs Tryz.f82 = [0, 2, 5, 10, 1, 22, 4] := by kernel_rfl
theorem gl84 : globs Tryz.f84 = [0, 6, 3, 10, 36, 2] := by kernel_rfl
theorem gl85 : globs Tryz.f85 = [0, 1, 11, 5, 15, 25, 4] := by kernel_rfl
theorem gl87 : globs Tryz.f87 = [0, 4, 11, 3, 2] := by kernel_rfl
theorem gl88 : globs Tryz.f88 = [1, 0, 10, 5, 14, 26, 4] := by kernel_rfl
theorem gl89 : globs Tryz.f89 = [0, 5, 9, 1, 4] := by kernel_rfl
theorem gl99 : globs Tryz.f99 = [0, 1, 20, 19, 21, 18, 3, 5, 2] := by kernel_rfl
theorem gl100 : globs Tryz.f100 = [0, 9, 8, 10, 7, 5, 3, 2] := by kernel_rfl
theorem gl111 : globs Tryz.f111 = [0, 1, 11, 5, 15, 25, 4] := by kernel_rfl
theorem gl112 : globs Tryz.f112 = [0, 1, 28, 3, 33, 42, 5, 2] := by kernel_rfl
theorem gl113 : globs Tryz.f113 = [0, 4, 11, 3, 2] := by kernel_rfl
theorem gl115 : globs Tryz.f115 = [1, 0, 10, 5, 14, 26, 4] := by kernel_rfl
theorem gl116 : globs Tryz.f116 = [0, 5, 9, 1, 4] := by kernel_rfl
theorem gl125 : globs Tryz.f125 = [5, 0, 20, 27, 6, 33, 7, 47, 8, 55, 76, 94, 9, 98, 112, 2, 3, 4] := by kernel_rfl
theorem gl126 : globs Tryz.f126 = [0, 2, 1, 15, 3, 66, 68, 69, 73, 82, 84, 89, 91, 96, 98, 112, 7, 117, 151, 162, 6] := by kernel_rfl
theorem gl127 : globs Tryz.f127 = [0, 4, 9, 23, 3, 2] := by kernel_rfl
theorem gl136 : globs Tryz.f136 = [0, 5, 9, 1, 4] := by kernel_rfl
theorem gl137 : globs Tryz.f137 = [0, 1, 11, 5, 15, 25, 4] := by kernel_rfl
theorem gl138 : globs Tryz.f138 = [0, 4, 11, 3, 2] := by kernel_rfl
theorem gl140 : globs Tryz.f140 = [0, 7, 6, 8, 5, 4, 3, 28, 2] := by kernel_rfl
theorem gl142 : globs Tryz.f142 = [1, 0, 10, 5, 14, 26, 4] := by kernel_rfl
theorem gl149 : globs Tryz.f149 = [0, 1, 6, 3, 11, 20, 2] := by kernel_rfl
theorem gl155 : globs Tryz.f155 = [0, 8, 7, 9, 5, 1, 16, 4] := by kernel_rfl
theorem gl165 : globs Tryz.f165 = [1, 0, 3, 2, 12, 20, 30, 5, 47, 52, 6, 65, 7, 79, 4] := by kernel_rfl
theorem gl177 : globs Tryz.f177 = [0, 2, 1, 7, 12, 6, 22, 4, 5] := by kernel_rfl
theorem gl178 : globs Tryz.f178 = [0, 1, 27, 35, 34, 36, 33, 6, 42, 5, 4, 8, 53, 7, 2, 3] := by kernel_rfl
theorem gl186 : globs Tryz.f186 = [0, 11, 3, 15, 29, 2] := by kernel_rfl
theorem gl188 : globs Tryz.f188 = [0, 6, 3, 10, 24, 2] := by kernel_rfl
theorem gl190 : globs Tryz.f190 = [0, 7, 6, 8, 5, 4, 16, 2] := by kernel_rfl
theorem gl195 : globs Tryz.f195 = [1, 0, 3, 12, 2, 29, 30, 8, 7, 6, 5, 43, 57, 71, 85, 88, 89, 97, 101, 100, 102, 99, 10, 9, 123, 4] := by kernel_rfl
theorem gl196 : globs Tryz.f196 = [0, 1, 9, 8, 10, 7, 5, 3, 2] := by kernel_rfl
theorem gl207 : globs Tryz.f207 = [0, 8, 10, 9, 17, 1, 11, 2, 31, 6, 7] := by kernel_rfl
theorem gl214 : globs Tryz.f214 = [1, 0, 7, 12, 3, 8, 6, 28, 5, 34, 43, 4] := by kernel_rfl
theorem gl215 : globs Tryz.f215 = [0, 1, 19, 18, 20, 17, 3, 5, 2] := by kernel_rfl
theorem gl220 : globs Tryz.f220 = [1, 5, 22, 25, 0, 33, 40, 41, 46, 52, 9, 8, 69, 6, 75, 11, 84, 7, 105, 10, 114, 12, 121, 17, 15, 138, 13, 144, 18, 153, 14, 174, 16, 189, 19, 196, 4] := by kernel_rfl
theorem gl226 : globs Tryz.f226 = [0, 7, 6, 8, 5, 4, 16, 2] := by kernel_rfl
theorem gl231 : globs Tryz.f231 = [0, 4, 20, 1, 5, 7, 6, 9, 8, 11, 10, 99, 12, 13, 15, 14, 139, 16, 161] := by kernel_rfl
theorem gl250 : globs Tryz.f250 = [0, 8, 7, 9, 5, 1, 16, 4] := by kernel_rfl
theorem funcs_all {f : Func → Bool} (h : Tryz.prog.funcs.all f = true) {i : Nat} {fn : Func} (hi : Tryz.prog.funcs[i]? = some fn) : f fn = true := Array.all_eq_true_iff_forall_mem.1 h fn (Array.mem_of_getElem? hi)
theorem progB : @Prog ⟨True⟩ Cb := letI : Dd := ⟨True⟩; ⟨fun t i h => tabOk t i h, mixed, fun f fn h => by simpa using funcs_all names_ok h, fun f fn c h hc => by have := funcs_all dsts_ok h; rw [hc] at this; exact this, fun _ _ _ _ _ h => (by cases h), fun _ _ _ _ _ _ => trivial⟩
instance ddS : Dd := ⟨False⟩
theorem hasBody {fn : Func} (h : fn.body.isSome = true) : fn.body = some (code fn) := by
  unfold code
  cases hb : fn.body with
  | none => rw [hb] at h; cases h
  | some c => rfl
theorem call0 {g : FuncId} {gn : Func} {ts : List TV} {hp : Hp} {r : Option Res} (hg : Tryz.prog.funcs[g]? = some gn) (hb : gn.body.isSome = true) (h : lim C0 g gn [.c (code gn)] ⟨number ts 0, hp⟩ = r) (hx : isExt g = false := by rfl) : phi C0 (lim C0) g ts hp = r :=
  (phi_at (C := C0) (c := code gn) (ext0_none hx ts hp) hg (hasBody hb)).trans h
theorem callB {g : FuncId} {gn : Func} {ts : List TV} {hp : Hp} {r : Option Res} (hg : Tryz.prog.funcs[g]? = some gn) (hb : gn.body.isSome = true) (h : lim Cb g gn [.c (code gn)] ⟨number ts 0, hp⟩ = r) : phi Cb (lim Cb) g ts hp = r :=
  (phi_at (C := Cb) (c := code gn) rfl hg (hasBody hb)).trans h
end Go.Proofs.YtgkhojgmpojodaaGreatDoor
