/- Closed facts of this seat's program for the pure machine: its table of types, the orders of the drawn regions, what is asked of it. -/
import Derived.Test.YtgbfmdihmnpcdaaGreatDoorPm4
import Derived.Test.YtgbfmdihmnpcdaaGreatDoorChecked
import Derived.Lib.AtoiAll
import Derived.Lib.LaidTab
namespace Go.Proofs.YtgbfmdihmnpcdaaGreatDoor
open Go Go.Pm Go.Proofs
set_option linter.unusedVariables false
set_option linter.unusedSimpArgs false
def tab : List (Nat × TI) := [
 (1, ⟨1, 8, .other, .pv false (.sc .nilFunc)⟩),
 (2, ⟨1, 8, .int .i64, .pv false (.sc (.int .i64 0))⟩),
 (3, ⟨1, 8, .int .i64, .pv false (.sc (.int .i64 0))⟩),
 (4, ⟨1, 1, .bool, .pv false (.sc (.bool false))⟩),
 (5, ⟨1, 1, .int .u8, .pv false (.sc (.int .u8 0))⟩),
 (6, ⟨1, 1, .int .u8, .pv false (.sc (.int .u8 0))⟩),
 (7, ⟨4, 24, .struct [(0, 2), (1, 3), (2, 4), (3, 6)], .ag [.pv false (.sc (.int .i64 0)), .pv false (.sc (.int .i64 0)), .pv false (.sc (.bool false)), .pv false (.sc (.int .u8 0))]⟩),
 (8, ⟨4, 24, .struct [(0, 2), (1, 3), (2, 4), (3, 6)], .ag [.pv false (.sc (.int .i64 0)), .pv false (.sc (.int .i64 0)), .pv false (.sc (.bool false)), .pv false (.sc (.int .u8 0))]⟩),
 (9, ⟨1, 16, .str, .pv false (.sc (.string ⟨#[]⟩))⟩),
 (10, ⟨1, 16, .str, .pv false (.sc (.string ⟨#[]⟩))⟩),
 (11, ⟨1, 16, .str, .pv false (.sc (.string ⟨#[]⟩))⟩),
 (12, ⟨1, 8, .int .u64, .pv false (.sc (.int .u64 0))⟩),
 (13, ⟨2, 24, .struct [(0, 9), (1, 12)], .ag [.pv false (.sc (.string ⟨#[]⟩)), .pv false (.sc (.int .u64 0))]⟩),
 (14, ⟨2, 24, .struct [(0, 9), (1, 12)], .ag [.pv false (.sc (.string ⟨#[]⟩)), .pv false (.sc (.int .u64 0))]⟩),
 (15, ⟨1, 8, .ptr 233, .pv false (.sc (.pointer none))⟩),
 (16, ⟨1, 8, .ptr 236, .pv false (.sc (.pointer none))⟩),
 (17, ⟨1, 8, .ptr 243, .pv false (.sc (.pointer none))⟩),
 (18, ⟨1, 8, .struct [(0, 17)], .ag [.pv false (.sc (.pointer none))]⟩),
 (19, ⟨1, 8, .struct [(0, 17)], .ag [.pv false (.sc (.pointer none))]⟩),
 (20, ⟨1, 16, .ifc, .pv false (.sc .nilIface)⟩),
 (21, ⟨1, 4, .int .i32, .pv false (.sc (.int .i32 0))⟩),
 (22, ⟨1, 24, .slice 105, .nl⟩),
 (23, ⟨2, 32, .struct [(0, 22), (1, 3)], .ag [.nl, .pv false (.sc (.int .i64 0))]⟩),
 (24, ⟨2, 32, .struct [(0, 22), (1, 3)], .ag [.nl, .pv false (.sc (.int .i64 0))]⟩),
 (25, ⟨1, 24, .slice 5, .nl⟩),
 (26, ⟨1, 8, .other, .pv false (.sc .nilFunc)⟩),
 (27, ⟨1, 24, .slice 69, .nl⟩),
 (28, ⟨2, 32, .struct [(0, 27), (1, 3)], .ag [.nl, .pv false (.sc (.int .i64 0))]⟩),
 (29, ⟨2, 32, .struct [(0, 27), (1, 3)], .ag [.nl, .pv false (.sc (.int .i64 0))]⟩),
 (31, ⟨1, 8, .other, .pv false (.sc .nilFunc)⟩),
 (32, ⟨1, 8, .other, .pv false (.sc .nilFunc)⟩),
 (33, ⟨1, 8, .other, .pv false (.sc .nilFunc)⟩),
 (34, ⟨1, 8, .other, .pv false (.sc .nilFunc)⟩),
 (35, ⟨1, 8, .other, .pv false (.sc .nilFunc)⟩),
 (36, ⟨1, 8, .other, .pv false (.sc .nilFunc)⟩),
 (37, ⟨1, 8, .other, .pv false (.sc .nilFunc)⟩),
 (38, ⟨1, 8, .other, .pv false (.sc .nilFunc)⟩),
 (39, ⟨1, 24, .slice 159, .nl⟩),
 (40, ⟨5, 72, .struct [(0, 3), (1, 4), (2, 25), (3, 3), (4, 39)], .ag [.pv false (.sc (.int .i64 0)), .pv false (.sc (.bool false)), .nl, .pv false (.sc (.int .i64 0)), .nl]⟩),
 (41, ⟨5, 72, .struct [(0, 3), (1, 4), (2, 25), (3, 3), (4, 39)], .ag [.pv false (.sc (.int .i64 0)), .pv false (.sc (.bool false)), .nl, .pv false (.sc (.int .i64 0)), .nl]⟩),
 (42, ⟨1, 24, .slice 122, .nl⟩),
 (43, ⟨7, 104, .struct [(0, 41), (5, 42), (6, 3)], .ag [.pv false (.sc (.int .i64 0)), .pv false (.sc (.bool false)), .nl, .pv false (.sc (.int .i64 0)), .nl, .nl, .pv false (.sc (.int .i64 0))]⟩),
 (44, ⟨7, 104, .struct [(0, 41), (5, 42), (6, 3)], .ag [.pv false (.sc (.int .i64 0)), .pv false (.sc (.bool false)), .nl, .pv false (.sc (.int .i64 0)), .nl, .nl, .pv false (.sc (.int .i64 0))]⟩),
 (45, ⟨1, 8, .other, .pv false (.sc .nilFunc)⟩),
 (46, ⟨1, 24, .slice 162, .nl⟩),
 (47, ⟨5, 72, .struct [(0, 3), (1, 4), (2, 25), (3, 3), (4, 46)], .ag [.pv false (.sc (.int .i64 0)), .pv false (.sc (.bool false)), .nl, .pv false (.sc (.int .i64 0)), .nl]⟩),
 (48, ⟨5, 72, .struct [(0, 3), (1, 4), (2, 25), (3, 3), (4, 46)], .ag [.pv false (.sc (.int .i64 0)), .pv false (.sc (.bool false)), .nl, .pv false (.sc (.int .i64 0)), .nl]⟩),
 (49, ⟨1, 24, .slice 126, .nl⟩),
 (50, ⟨7, 104, .struct [(0, 48), (5, 49), (6, 3)], .ag [.pv false (.sc (.int .i64 0)), .pv false (.sc (.bool false)), .nl, .pv false (.sc (.int .i64 0)), .nl, .nl, .pv false (.sc (.int .i64 0))]⟩),
 (51, ⟨7, 104, .struct [(0, 48), (5, 49), (6, 3)], .ag [.pv false (.sc (.int .i64 0)), .pv false (.sc (.bool false)), .nl, .pv false (.sc (.int .i64 0)), .nl, .nl, .pv false (.sc (.int .i64 0))]⟩),
 (53, ⟨1, 8, .other, .pv false (.sc .nilFunc)⟩),
 (54, ⟨1, 8, .other, .pv false (.sc .nilFunc)⟩),
 (55, ⟨1, 8, .other, .pv false (.sc .nilFunc)⟩),
 (56, ⟨1, 8, .other, .pv false (.sc .nilFunc)⟩),
 (57, ⟨1, 8, .other, .pv false (.sc .nilFunc)⟩),
 (58, ⟨1, 8, .other, .pv false (.sc .nilFunc)⟩),
 (59, ⟨1, 8, .other, .pv false (.sc .nilFunc)⟩),
 (60, ⟨1, 8, .other, .pv false (.sc .nilFunc)⟩),
 (61, ⟨1, 8, .other, .pv false (.sc .nilFunc)⟩),
 (62, ⟨1, 8, .other, .pv false (.sc .nilFunc)⟩),
 (63, ⟨1, 8, .other, .pv false (.sc .nilFunc)⟩),
 (64, ⟨1, 24, .slice 25, .nl⟩),
 (65, ⟨1, 24, .slice 67, .nl⟩),
 (66, ⟨5, 88, .struct [(0, 3), (1, 3), (2, 25), (3, 64), (4, 65)], .ag [.pv false (.sc (.int .i64 0)), .pv false (.sc (.int .i64 0)), .nl, .nl, .nl]⟩),
 (67, ⟨5, 88, .struct [(0, 3), (1, 3), (2, 25), (3, 64), (4, 65)], .ag [.pv false (.sc (.int .i64 0)), .pv false (.sc (.int .i64 0)), .nl, .nl, .nl]⟩),
 (68, ⟨9, 152, .struct [(0, 3), (1, 25), (2, 3), (3, 67), (8, 64)], .ag [.pv false (.sc (.int .i64 0)), .nl, .pv false (.sc (.int .i64 0)), .pv false (.sc (.int .i64 0)), .pv false (.sc (.int .i64 0)), .nl, .nl, .nl, .nl]⟩),
 (69, ⟨9, 152, .struct [(0, 3), (1, 25), (2, 3), (3, 67), (8, 64)], .ag [.pv false (.sc (.int .i64 0)), .nl, .pv false (.sc (.int .i64 0)), .pv false (.sc (.int .i64 0)), .pv false (.sc (.int .i64 0)), .nl, .nl, .nl, .nl]⟩),
 (70, ⟨1, 8, .other, .pv false (.sc .nilFunc)⟩),
 (71, ⟨1, 8, .other, .pv false (.sc .nilFunc)⟩),
 (72, ⟨1, 8, .other, .pv false (.sc .nilFunc)⟩),
 (73, ⟨1, 8, .other, .pv false (.sc .nilFunc)⟩),
 (74, ⟨1, 8, .other, .pv false (.sc .nilFunc)⟩),
 (75, ⟨1, 8, .other, .pv false (.sc .nilFunc)⟩),
 (76, ⟨1, 8, .other, .pv false (.sc .nilFunc)⟩),
 (77, ⟨1, 8, .other, .pv false (.sc .nilFunc)⟩),
 (78, ⟨1, 8, .other, .pv false (.sc .nilFunc)⟩),
 (79, ⟨1, 8, .other, .pv false (.sc .nilFunc)⟩),
 (80, ⟨1, 8, .other, .pv false (.sc .nilFunc)⟩),
 (81, ⟨1, 8, .other, .pv false (.sc .nilFunc)⟩),
 (82, ⟨1, 8, .ptr 86, .pv false (.sc (.pointer none))⟩),
 (83, ⟨1, 8, .other, .pv false (.sc .nilFunc)⟩),
 (84, ⟨1, 24, .slice 3, .nl⟩),
 (85, ⟨17, 264, .struct [(0, 51), (7, 48), (12, 84), (13, 3), (14, 84), (15, 64), (16, 4)], .ag [.pv false (.sc (.int .i64 0)), .pv false (.sc (.bool false)), .nl, .pv false (.sc (.int .i64 0)), .nl, .nl, .pv false (.sc (.int .i64 0)), .pv false (.sc (.int .i64 0)), .pv false (.sc (.bool false)), .nl, .pv false (.sc (.int .i64 0)), .nl, .nl, .pv false (.sc (.int .i64 0)), .nl, .nl, .pv false (.sc (.bool false))]⟩),
 (86, ⟨17, 264, .struct [(0, 51), (7, 48), (12, 84), (13, 3), (14, 84), (15, 64), (16, 4)], .ag [.pv false (.sc (.int .i64 0)), .pv false (.sc (.bool false)), .nl, .pv false (.sc (.int .i64 0)), .nl, .nl, .pv false (.sc (.int .i64 0)), .pv false (.sc (.int .i64 0)), .pv false (.sc (.bool false)), .nl, .pv false (.sc (.int .i64 0)), .nl, .nl, .pv false (.sc (.int .i64 0)), .nl, .nl, .pv false (.sc (.bool false))]⟩),
 (87, ⟨1, 8, .other, .pv false (.sc .nilFunc)⟩),
 (88, ⟨1, 8, .other, .pv false (.sc .nilFunc)⟩),
 (89, ⟨1, 8, .other, .pv false (.sc .nilFunc)⟩),
 (90, ⟨1, 8, .other, .pv false (.sc .nilFunc)⟩),
 (91, ⟨1, 8, .ptr 95, .pv false (.sc (.pointer none))⟩),
 (92, ⟨1, 8, .other, .pv false (.sc .nilFunc)⟩),
 (93, ⟨1, 8, .other, .pv false (.sc .nilFunc)⟩),
 (94, ⟨16, 256, .struct [(0, 51), (7, 48), (12, 84), (13, 93), (14, 84), (15, 64)], .ag [.pv false (.sc (.int .i64 0)), .pv false (.sc (.bool false)), .nl, .pv false (.sc (.int .i64 0)), .nl, .nl, .pv false (.sc (.int .i64 0)), .pv false (.sc (.int .i64 0)), .pv false (.sc (.bool false)), .nl, .pv false (.sc (.int .i64 0)), .nl, .nl, .pv false (.sc .nilFunc), .nl, .nl]⟩),
 (95, ⟨16, 256, .struct [(0, 51), (7, 48), (12, 84), (13, 93), (14, 84), (15, 64)], .ag [.pv false (.sc (.int .i64 0)), .pv false (.sc (.bool false)), .nl, .pv false (.sc (.int .i64 0)), .nl, .nl, .pv false (.sc (.int .i64 0)), .pv false (.sc (.int .i64 0)), .pv false (.sc (.bool false)), .nl, .pv false (.sc (.int .i64 0)), .nl, .nl, .pv false (.sc .nilFunc), .nl, .nl]⟩),
 (96, ⟨1, 8, .other, .pv false (.sc .nilFunc)⟩),
 (97, ⟨1, 8, .other, .pv false (.sc .nilFunc)⟩),
 (98, ⟨1, 8, .other, .pv false (.sc .nilFunc)⟩),
 (99, ⟨1, 8, .other, .pv false (.sc .nilFunc)⟩),
 (100, ⟨1, 8, .other, .pv false (.sc .nilFunc)⟩),
 (101, ⟨1, 24, .slice 103, .nl⟩),
 (102, ⟨5, 88, .struct [(0, 3), (1, 3), (2, 25), (3, 64), (4, 101)], .ag [.pv false (.sc (.int .i64 0)), .pv false (.sc (.int .i64 0)), .nl, .nl, .nl]⟩),
 (103, ⟨5, 88, .struct [(0, 3), (1, 3), (2, 25), (3, 64), (4, 101)], .ag [.pv false (.sc (.int .i64 0)), .pv false (.sc (.int .i64 0)), .nl, .nl, .nl]⟩),
 (104, ⟨9, 152, .struct [(0, 3), (1, 25), (2, 3), (3, 103), (8, 64)], .ag [.pv false (.sc (.int .i64 0)), .nl, .pv false (.sc (.int .i64 0)), .pv false (.sc (.int .i64 0)), .pv false (.sc (.int .i64 0)), .nl, .nl, .nl, .nl]⟩),
 (105, ⟨9, 152, .struct [(0, 3), (1, 25), (2, 3), (3, 103), (8, 64)], .ag [.pv false (.sc (.int .i64 0)), .nl, .pv false (.sc (.int .i64 0)), .pv false (.sc (.int .i64 0)), .pv false (.sc (.int .i64 0)), .nl, .nl, .nl, .nl]⟩),
 (106, ⟨1, 8, .other, .pv false (.sc .nilFunc)⟩),
 (107, ⟨1, 8, .other, .pv false (.sc .nilFunc)⟩),
 (108, ⟨1, 8, .other, .pv false (.sc .nilFunc)⟩),
 (109, ⟨1, 8, .other, .pv false (.sc .nilFunc)⟩),
 (110, ⟨1, 24, .slice 4, .nl⟩),
 (111, ⟨1, 8, .other, .pv false (.sc .nilFunc)⟩),
 (112, ⟨1, 8, .other, .pv false (.sc .nilFunc)⟩),
 (113, ⟨1, 8, .other, .pv false (.sc .nilFunc)⟩),
 (114, ⟨1, 8, .other, .pv false (.sc .nilFunc)⟩),
 (115, ⟨1, 8, .other, .pv false (.sc .nilFunc)⟩),
 (116, ⟨1, 8, .other, .pv false (.sc .nilFunc)⟩),
 (117, ⟨1, 8, .other, .pv false (.sc .nilFunc)⟩),
 (118, ⟨1, 8, .other, .pv false (.sc .nilFunc)⟩),
 (119, ⟨1, 8, .other, .pv false (.sc .nilFunc)⟩),
 (120, ⟨1, 8, .other, .pv false (.sc .nilFunc)⟩),
 (121, ⟨9, 152, .struct [(0, 3), (1, 25), (2, 3), (3, 103), (8, 64)], .ag [.pv false (.sc (.int .i64 0)), .nl, .pv false (.sc (.int .i64 0)), .pv false (.sc (.int .i64 0)), .pv false (.sc (.int .i64 0)), .nl, .nl, .nl, .nl]⟩),
 (122, ⟨9, 152, .struct [(0, 3), (1, 25), (2, 3), (3, 103), (8, 64)], .ag [.pv false (.sc (.int .i64 0)), .nl, .pv false (.sc (.int .i64 0)), .pv false (.sc (.int .i64 0)), .pv false (.sc (.int .i64 0)), .nl, .nl, .nl, .nl]⟩),
 (123, ⟨1, 8, .other, .pv false (.sc .nilFunc)⟩),
 (124, ⟨1, 8, .other, .pv false (.sc .nilFunc)⟩),
 (125, ⟨9, 152, .struct [(0, 3), (1, 25), (2, 3), (3, 67), (8, 64)], .ag [.pv false (.sc (.int .i64 0)), .nl, .pv false (.sc (.int .i64 0)), .pv false (.sc (.int .i64 0)), .pv false (.sc (.int .i64 0)), .nl, .nl, .nl, .nl]⟩),
 (126, ⟨9, 152, .struct [(0, 3), (1, 25), (2, 3), (3, 67), (8, 64)], .ag [.pv false (.sc (.int .i64 0)), .nl, .pv false (.sc (.int .i64 0)), .pv false (.sc (.int .i64 0)), .pv false (.sc (.int .i64 0)), .nl, .nl, .nl, .nl]⟩),
 (128, ⟨1, 8, .other, .pv false (.sc .nilFunc)⟩),
 (129, ⟨1, 8, .other, .pv false (.sc .nilFunc)⟩),
 (130, ⟨1, 8, .other, .pv false (.sc .nilFunc)⟩),
 (131, ⟨1, 8, .other, .pv false (.sc .nilFunc)⟩),
 (132, ⟨1, 8, .other, .pv false (.sc .nilFunc)⟩),
 (133, ⟨1, 8, .other, .pv false (.sc .nilFunc)⟩),
 (134, ⟨1, 24, .slice 48, .nl⟩),
 (136, ⟨1, 8, .other, .pv false (.sc .nilFunc)⟩),
 (137, ⟨1, 8, .other, .pv false (.sc .nilFunc)⟩),
 (138, ⟨1, 8, .other, .pv false (.sc .nilFunc)⟩),
 (139, ⟨1, 8, .other, .pv false (.sc .nilFunc)⟩),
 (140, ⟨1, 8, .other, .pv false (.sc .nilFunc)⟩),
 (142, ⟨1, 8, .other, .pv false (.sc .nilFunc)⟩),
 (143, ⟨1, 8, .other, .pv false (.sc .nilFunc)⟩),
 (144, ⟨1, 24, .slice 9, .nl⟩),
 (145, ⟨1, 8, .other, .pv false (.sc .nilFunc)⟩),
 (146, ⟨1, 8, .other, .pv false (.sc .nilFunc)⟩),
 (148, ⟨1, 8, .other, .pv false (.sc .nilFunc)⟩),
 (149, ⟨1, 16, .ifc, .pv false (.sc .nilIface)⟩),
 (150, ⟨1, 16, .ifc, .pv false (.sc .nilIface)⟩),
 (152, ⟨1, 8, .other, .pv false (.sc .nilFunc)⟩),
 (153, ⟨1, 8, .other, .pv false (.sc .nilFunc)⟩),
 (154, ⟨1, 8, .other, .pv false (.sc .nilFunc)⟩),
 (155, ⟨1, 8, .other, .pv false (.sc .nilFunc)⟩),
 (156, ⟨1, 8, .other, .pv false (.sc .nilFunc)⟩),
 (157, ⟨1, 8, .other, .pv false (.sc .nilFunc)⟩),
 (158, ⟨9, 152, .struct [(0, 25), (1, 103), (6, 64), (7, 4), (8, 3)], .ag [.nl, .pv false (.sc (.int .i64 0)), .pv false (.sc (.int .i64 0)), .nl, .nl, .nl, .nl, .pv false (.sc (.bool false)), .pv false (.sc (.int .i64 0))]⟩),
 (159, ⟨9, 152, .struct [(0, 25), (1, 103), (6, 64), (7, 4), (8, 3)], .ag [.nl, .pv false (.sc (.int .i64 0)), .pv false (.sc (.int .i64 0)), .nl, .nl, .nl, .nl, .pv false (.sc (.bool false)), .pv false (.sc (.int .i64 0))]⟩),
 (160, ⟨1, 8, .other, .pv false (.sc .nilFunc)⟩),
 (161, ⟨9, 152, .struct [(0, 25), (1, 67), (6, 64), (7, 4), (8, 3)], .ag [.nl, .pv false (.sc (.int .i64 0)), .pv false (.sc (.int .i64 0)), .nl, .nl, .nl, .nl, .pv false (.sc (.bool false)), .pv false (.sc (.int .i64 0))]⟩),
 (162, ⟨9, 152, .struct [(0, 25), (1, 67), (6, 64), (7, 4), (8, 3)], .ag [.nl, .pv false (.sc (.int .i64 0)), .pv false (.sc (.int .i64 0)), .nl, .nl, .nl, .nl, .pv false (.sc (.bool false)), .pv false (.sc (.int .i64 0))]⟩),
 (163, ⟨1, 8, .other, .pv false (.sc .nilFunc)⟩),
 (164, ⟨1, 8, .other, .pv false (.sc .nilFunc)⟩),
 (165, ⟨1, 8, .other, .pv false (.sc .nilFunc)⟩),
 (166, ⟨1, 8, .ptr 48, .pv false (.sc (.pointer none))⟩),
 (167, ⟨1, 8, .other, .pv false (.sc .nilFunc)⟩),
 (168, ⟨1, 8, .other, .pv false (.sc .nilFunc)⟩),
 (169, ⟨1, 8, .other, .pv false (.sc .nilFunc)⟩),
 (170, ⟨1, 8, .other, .pv false (.sc .nilFunc)⟩),
 (171, ⟨1, 8, .other, .pv false (.sc .nilFunc)⟩),
 (172, ⟨1, 8, .other, .pv false (.sc .nilFunc)⟩),
 (173, ⟨1, 8, .other, .pv false (.sc .nilFunc)⟩),
 (174, ⟨1, 8, .other, .pv false (.sc .nilFunc)⟩),
 (175, ⟨1, 8, .other, .pv false (.sc .nilFunc)⟩),
 (176, ⟨1, 8, .other, .pv false (.sc .nilFunc)⟩),
 (177, ⟨1, 8, .other, .pv false (.sc .nilFunc)⟩),
 (178, ⟨1, 8, .other, .pv false (.sc .nilFunc)⟩),
 (179, ⟨1, 8, .other, .pv false (.sc .nilFunc)⟩),
 (180, ⟨1, 8, .other, .pv false (.sc .nilFunc)⟩),
 (182, ⟨1, 8, .other, .pv false (.sc .nilFunc)⟩),
 (183, ⟨1, 8, .other, .pv false (.sc .nilFunc)⟩),
 (184, ⟨1, 8, .other, .pv false (.sc .nilFunc)⟩),
 (185, ⟨1, 8, .other, .pv false (.sc .nilFunc)⟩),
 (186, ⟨1, 8, .other, .pv false (.sc .nilFunc)⟩),
 (187, ⟨1, 8, .other, .pv false (.sc .nilFunc)⟩),
 (188, ⟨1, 8, .int .u64, .pv false (.sc (.int .u64 0))⟩),
 (189, ⟨1, 8, .int .i64, .pv false (.sc (.int .i64 0))⟩),
 (191, ⟨1, 8, .other, .pv false (.sc .nilFunc)⟩),
 (192, ⟨1, 8, .ptr 210, .pv false (.sc (.pointer none))⟩),
 (193, ⟨1, 8, .other, .pv false (.sc .nilFunc)⟩),
 (194, ⟨1, 8, .other, .pv false (.sc .nilFunc)⟩),
 (195, ⟨1, 8, .other, .pv false (.sc .nilFunc)⟩),
 (196, ⟨1, 8, .other, .pv false (.sc .nilFunc)⟩),
 (197, ⟨1, 8, .other, .pv false (.sc .nilFunc)⟩),
 (198, ⟨1, 8, .other, .pv false (.sc .nilFunc)⟩),
 (199, ⟨1, 8, .other, .pv false (.sc .nilFunc)⟩),
 (200, ⟨1, 8, .other, .pv false (.sc .nilFunc)⟩),
 (201, ⟨1, 8, .other, .pv false (.sc .nilFunc)⟩),
 (202, ⟨1, 4, .int .u32, .pv false (.sc (.int .u32 0))⟩),
 (204, ⟨1, 8, .other, .pv false (.sc .nilFunc)⟩),
 (205, ⟨1, 8, .int .u64, .pv false (.sc (.int .u64 0))⟩),
 (207, ⟨1, 8, .other, .pv false (.sc .nilFunc)⟩),
 (208, ⟨1, 8, .other, .pv false (.sc .nilFunc)⟩),
 (209, ⟨3, 48, .struct [(0, 9), (1, 9), (2, 150)], .ag [.pv false (.sc (.string ⟨#[]⟩)), .pv false (.sc (.string ⟨#[]⟩)), .pv false (.sc .nilIface)]⟩),
 (210, ⟨3, 48, .struct [(0, 9), (1, 9), (2, 150)], .ag [.pv false (.sc (.string ⟨#[]⟩)), .pv false (.sc (.string ⟨#[]⟩)), .pv false (.sc .nilIface)]⟩),
 (211, ⟨1, 8, .other, .pv false (.sc .nilFunc)⟩),
 (212, ⟨24, 24, .arr 24 5, .ar (List.replicate 24 (.sc (.int .u8 0)))⟩),
 (213, ⟨1, 8, .other, .pv false (.sc .nilFunc)⟩),
 (214, ⟨1, 8, .other, .pv false (.sc .nilFunc)⟩),
 (216, ⟨1, 8, .other, .pv false (.sc .nilFunc)⟩),
 (217, ⟨1, 8, .other, .pv false (.sc .nilFunc)⟩),
 (218, ⟨1, 8, .other, .pv false (.sc .nilFunc)⟩),
 (219, ⟨1, 8, .ptr 5, .pv false (.sc (.pointer none))⟩),
 (220, ⟨1, 8, .ptr 222, .pv false (.sc (.pointer none))⟩),
 (221, ⟨1, 16, .struct [(0, 9)], .ag [.pv false (.sc (.string ⟨#[]⟩))]⟩),
 (222, ⟨1, 16, .struct [(0, 9)], .ag [.pv false (.sc (.string ⟨#[]⟩))]⟩),
 (223, ⟨1, 8, .other, .pv false (.sc .nilFunc)⟩),
 (224, ⟨20, 160, .arr 20 205, .ar (List.replicate 20 (.sc (.int .u64 0)))⟩),
 (225, ⟨65, 65, .arr 65 5, .ar (List.replicate 65 (.sc (.int .u8 0)))⟩),
 (226, ⟨1, 8, .other, .pv false (.sc .nilFunc)⟩),
 (227, ⟨1, 8, .other, .pv false (.sc .nilFunc)⟩),
 (228, ⟨1, 8, .other, .pv false (.sc .nilFunc)⟩),
 (229, ⟨32, 32, .arr 32 5, .ar (List.replicate 32 (.sc (.int .u8 0)))⟩),
 (230, ⟨64, 64, .arr 64 5, .ar (List.replicate 64 (.sc (.int .u8 0)))⟩),
 (231, ⟨1, 8, .other, .pv false (.sc .nilFunc)⟩),
 (232, ⟨4, 40, .struct [(0, 17), (1, 17), (2, 17), (3, 9)], .ag [.pv false (.sc (.pointer none)), .pv false (.sc (.pointer none)), .pv false (.sc (.pointer none)), .pv false (.sc (.string ⟨#[]⟩))]⟩),
 (233, ⟨4, 40, .struct [(0, 17), (1, 17), (2, 17), (3, 9)], .ag [.pv false (.sc (.pointer none)), .pv false (.sc (.pointer none)), .pv false (.sc (.pointer none)), .pv false (.sc (.string ⟨#[]⟩))]⟩),
 (234, ⟨0, 0, .arr 0 16, .ar []⟩),
 (237, ⟨1, 1, .int .u8, .pv false (.sc (.int .u8 0))⟩),
 (238, ⟨1, 1, .int .u8, .pv false (.sc (.int .u8 0))⟩),
 (239, ⟨1, 8, .other, .pv false (.sc .nilFunc)⟩),
 (240, ⟨1, 4, .int .i32, .pv false (.sc (.int .i32 0))⟩),
 (241, ⟨1, 4, .int .i32, .pv false (.sc (.int .i32 0))⟩),
 (242, ⟨11, 48, .struct [(0, 12), (1, 12), (2, 202), (3, 237), (4, 5), (5, 5), (6, 238), (7, 239), (8, 219), (9, 240), (10, 241)], .ag [.pv false (.sc (.int .u64 0)), .pv false (.sc (.int .u64 0)), .pv false (.sc (.int .u32 0)), .pv false (.sc (.int .u8 0)), .pv false (.sc (.int .u8 0)), .pv false (.sc (.int .u8 0)), .pv false (.sc (.int .u8 0)), .pv false (.sc .nilFunc), .pv false (.sc (.pointer none)), .pv false (.sc (.int .i32 0)), .pv false (.sc (.int .i32 0))]⟩),
 (243, ⟨11, 48, .struct [(0, 12), (1, 12), (2, 202), (3, 237), (4, 5), (5, 5), (6, 238), (7, 239), (8, 219), (9, 240), (10, 241)], .ag [.pv false (.sc (.int .u64 0)), .pv false (.sc (.int .u64 0)), .pv false (.sc (.int .u32 0)), .pv false (.sc (.int .u8 0)), .pv false (.sc (.int .u8 0)), .pv false (.sc (.int .u8 0)), .pv false (.sc (.int .u8 0)), .pv false (.sc .nilFunc), .pv false (.sc (.pointer none)), .pv false (.sc (.int .i32 0)), .pv false (.sc (.int .i32 0))]⟩),
 (244, ⟨1, 8, .other, .pv false (.sc (.pointer none))⟩)]
theorem look_all {α : Type} {f : Nat → α → Bool} : ∀ {l : List (Nat × α)}, (l.all fun x => f x.1 x.2) = true → ∀ {i : Nat} {a : α}, Pm.look l i = some a → f i a = true := by
 intro l
 induction l with
 | nil => intro _ i a h; cases h
 | cons x l ih =>
  intro h i a hl
  simp only [List.all_cons, Bool.and_eq_true] at h
  simp only [Pm.look] at hl
  split at hl
  · rename_i e; cases hl; rw [e]; exact h.1
  · exact ih h.2 hl
theorem tab_ok : (tab.all fun x => tyOk Tryz.prog x.1 x.2) = true := by kernel_rfl
def tyT (t : Nat) : Option TI := Pm.look tab t
def sigs : List (Nat × Sig) := [(106, ⟨[], .tu [.d, .d, .d], false⟩), (109, ⟨[], .tu [.d, .d], false⟩), (108, ⟨[], .tu [.d, .d], false⟩), (101, ⟨[], .tu [.d, .d, .d], false⟩), (62, ⟨[], .own 5 1, false⟩), (103, ⟨[], .own 5 1, false⟩), (61, ⟨[], .own 5 1, false⟩), (23, ⟨[], .own 5 1, false⟩), (8, ⟨[], .d, true⟩), (105, ⟨[], .d, true⟩), (137, ⟨[], .d, true⟩), (104, ⟨[], .d, true⟩), (26, ⟨[], .d, true⟩), (65, ⟨[], .d, true⟩), (7, ⟨[], .d, true⟩), (90, ⟨[], .d, true⟩), (47, ⟨[], .d, true⟩), (125, ⟨[], .d, true⟩), (89, ⟨[], .d, true⟩), (46, ⟨[], .d, true⟩), (17, ⟨[], .d, true⟩), (13, ⟨[true], .d, false⟩), (75, ⟨[true], .d, false⟩), (76, ⟨[true], .d, false⟩), (38, ⟨[true], .d, false⟩), (12, ⟨[true], .d, false⟩), (54, ⟨[true], .d, false⟩), (97, ⟨[true], .d, false⟩), (53, ⟨[true], .d, false⟩), (20, ⟨[true], .d, false⟩), (188, ⟨[true], .d, false⟩), (177, ⟨[], .tu [.d, .d], false⟩), (155, ⟨[], .tu [.d, .d], false⟩), (127, ⟨[], .ag [.d, .d, .d, .d, .own 162 9], false⟩), (129, ⟨[], .tu [.d, .d], false⟩), (160, ⟨[true], .d, false⟩), (158, ⟨[true, false, true], .own 162 9, false⟩), (159, ⟨[true], .own 162 9, false⟩), (91, ⟨[], .tu [.d, .d], false⟩), (152, ⟨[], .own 162 9, false⟩), (123, ⟨[true], .d, false⟩), (85, ⟨[], .tu [.d, .d], false⟩), (43, ⟨[], .any, false⟩), (87, ⟨[true, false, false], .d, false⟩), (44, ⟨[true], .d, false⟩)]
def sgOf (f : FuncId) : Sig := (Pm.look sigs f).getD ⟨[], .d, false⟩
def bs0 : List Nat := [25]
attribute [simp] bs0
def cmpB : List Int → List Int → Int
 | [], [] => 0
 | [], _ :: _ => -1
 | _ :: _, [] => 1
 | a :: k, b :: l => if a < b then -1 else if b < a then 1 else cmpB k l
def idxB (c : Int) : List Int → Nat → Int
 | [], _ => -1
 | a :: l, i => if a = c then i else idxB c l (i + 1)
def byteOk (l : List Int) : Bool := l.all fun x => decide (0 ≤ x) && decide (x < 256)
def extBB (g : List Int → List Int → TV) : List TV → Hp → Option Res
 | [.pv _ (.sl r), .pv _ (.sl q)], [] => match bytesOf r, bytesOf q with
  | some a, some b => if byteOk a && byteOk b then some (g a b, []) else none
  | _, _ => none
 | _, _ => none
def extBC (g : List Int → Int → TV) : List TV → Hp → Option Res
 | [.pv _ (.sl r), .pv _ (.sc (.int .u8 c))], [] => match bytesOf r with
  | some a => if byteOk a && byteOk [c] then some (g a c, []) else none
  | none => none
 | _, _ => none
def atoiV (s : ByteArray) : TV := match Lib.atoiAll s.data.toList with
 | .ok v => .tu [(iv v), .pv false (.sc .nilIface)]
 | .range => .tu [(iv (Lib.atoiSat s.data.toList)), .er]
 | _ => .tu [(iv 0), .er]
def extS (g : ByteArray → TV) : List TV → Hp → Option Res
 | [.pv _ (.sc (.string s))], [] => if s.size ≤ 281474976710656 then some (g s, []) else none
 | _, _ => none
def digN (n : Nat) : List Int := if n < 10 then [48 + (n : Int)] else digN (n / 10) ++ [48 + ((n % 10 : Nat) : Int)]
def extN : List TV → Hp → Option Res
 | [.pv _ (.sc (.int .u64 n))], [] => if 1 ≤ n ∧ n < 18446744073709551616 then some ((iv (((digN n.toNat).length : Int))), []) else none
 | _, _ => none
def extF : List TV → Hp → Option Res
 | [.ref 0 0 len, .pv _ (.sc (.int .u64 n))], [(0, .row .io e 1 rows)] => match bytesOf rows with
  | some ns => if byteOk ns = true ∧ len = (digN n.toNat).length ∧ len ≤ rows.length ∧ 0 ≤ n ∧ n < 18446744073709551616 then some (.tu [], [(0, .row .io e 1 (nums .u8 (digN n.toNat) ++ rows.drop len))]) else none
  | none => none
 | _, _ => none
def extI (e k : Nat) : List TV → Hp → Option Res
 | [.ref 0 0 len, .pv _ (.sc (.int .i64 i)), .ref 1 0 1], [(0, .row .io e0 k0 rows), (1, .row .io e1 k1 [x])] => if e0 = e ∧ e1 = e ∧ k0 = k ∧ k1 = k ∧ len = rows.length ∧ 0 ≤ i ∧ i ≤ rows.length ∧ rows.length ≤ 1048576 ∧ x.length = k then some (.ref 16 0 (len + 1), [(0, .dead), (1, .row .io e k [x]), (16, .row .io e k (rows.take i.toNat ++ x :: rows.drop i.toNat))]) else none
 | [.nl, .pv _ (.sc (.int .i64 i)), .ref 0 0 1], [(0, .row .io e1 k1 [x])] => if e1 = e ∧ k1 = k ∧ i = 0 ∧ x.length = k then some (.ref 16 0 1, [(0, .row .io e k [x]), (16, .row .own e k [x])]) else none
 | _, _ => none
def pow10T : List Int := [1, 10, 100, 1000, 10000, 100000, 1000000, 10000000, 100000000, 1000000000, 10000000000, 100000000000, 1000000000000, 10000000000000, 100000000000000, 1000000000000000, 10000000000000000, 100000000000000000, 1000000000000000000, 10000000000000000000]
def isExt (f : FuncId) : Bool := f == 145 || f == 161 || f == 110 || f == 187 || f == 188 || f == 158
noncomputable def ext0 (f : FuncId) (ts : List TV) (hp : Hp) : Option Res :=
 bif f == 145 then extBB (fun a b => (iv (cmpB a b))) ts hp else
 bif f == 161 then extBC (fun a c => (iv (idxB c a 0))) ts hp else
 bif f == 110 then extS atoiV ts hp else
 bif f == 187 then extN ts hp else
 bif f == 188 then extF ts hp else
 bif f == 158 then extI 162 9 ts hp else none
theorem ext0_none {f : FuncId} (h : isExt f = false) (ts : List TV) (hp : Hp) : ext0 f ts hp = none := by
 simp only [isExt, Bool.or_eq_false_iff] at h
 simp [ext0, h]
def gw0 (w : World) : Prop := (∃ t a, w.var? Tryz.prog "strconv.ErrSyntax" = some #[.iface t a]) ∧ (∃ t a, w.var? Tryz.prog "strconv.ErrRange" = some #[.iface t a]) ∧ Lib.TabIs Tryz.prog w "internal/strconv.uint64pow10" .u64 pow10T
noncomputable def Cb : Cfg := ⟨Tryz.prog, tyT, sgOf, fun _ _ _ => none, bs0, 0, fun _ => True, false⟩
noncomputable def C0 : Cfg := ⟨Tryz.prog, tyT, sgOf, ext0, bs0, Tryz.prog.globals.size, gw0, false⟩
@[simp] theorem Cb_bs : Cb.bs = bs0 := rfl
@[simp] theorem C0_bs : C0.bs = bs0 := rfl
@[simp] theorem Cb_T : Cb.T = tyT := rfl
@[simp] theorem Cb_sg (f : FuncId) : Cb.sg f = sgOf f := rfl
@[simp] theorem C0_T : C0.T = tyT := rfl
@[simp] theorem C0_sg (f : FuncId) : C0.sg f = sgOf f := rfl
@[simp] theorem C0_att : C0.att = false := rfl
@[simp] theorem Cb_att : Cb.att = false := rfl
theorem tabOk : TabOk C0 := fun t i h => tyOk_of (look_all (f := tyOk Tryz.prog) tab_ok h)
@[simp] theorem tyT1 : tyT 1 = some ⟨1, 8, .other, .pv false (.sc .nilFunc)⟩ := by kernel_rfl
@[simp] theorem tyT2 : tyT 2 = some ⟨1, 8, .int .i64, .pv false (.sc (.int .i64 0))⟩ := by kernel_rfl
@[simp] theorem tyT3 : tyT 3 = some ⟨1, 8, .int .i64, .pv false (.sc (.int .i64 0))⟩ := by kernel_rfl
@[simp] theorem tyT4 : tyT 4 = some ⟨1, 1, .bool, .pv false (.sc (.bool false))⟩ := by kernel_rfl
@[simp] theorem tyT5 : tyT 5 = some ⟨1, 1, .int .u8, .pv false (.sc (.int .u8 0))⟩ := by kernel_rfl
@[simp] theorem tyT6 : tyT 6 = some ⟨1, 1, .int .u8, .pv false (.sc (.int .u8 0))⟩ := by kernel_rfl
@[simp] theorem tyT7 : tyT 7 = some ⟨4, 24, .struct [(0, 2), (1, 3), (2, 4), (3, 6)], .ag [.pv false (.sc (.int .i64 0)), .pv false (.sc (.int .i64 0)), .pv false (.sc (.bool false)), .pv false (.sc (.int .u8 0))]⟩ := by kernel_rfl
@[simp] theorem tyT8 : tyT 8 = some ⟨4, 24, .struct [(0, 2), (1, 3), (2, 4), (3, 6)], .ag [.pv false (.sc (.int .i64 0)), .pv false (.sc (.int .i64 0)), .pv false (.sc (.bool false)), .pv false (.sc (.int .u8 0))]⟩ := by kernel_rfl
@[simp] theorem tyT9 : tyT 9 = some ⟨1, 16, .str, .pv false (.sc (.string ⟨#[]⟩))⟩ := by kernel_rfl
@[simp] theorem tyT10 : tyT 10 = some ⟨1, 16, .str, .pv false (.sc (.string ⟨#[]⟩))⟩ := by kernel_rfl
@[simp] theorem tyT11 : tyT 11 = some ⟨1, 16, .str, .pv false (.sc (.string ⟨#[]⟩))⟩ := by kernel_rfl
@[simp] theorem tyT12 : tyT 12 = some ⟨1, 8, .int .u64, .pv false (.sc (.int .u64 0))⟩ := by kernel_rfl
@[simp] theorem tyT13 : tyT 13 = some ⟨2, 24, .struct [(0, 9), (1, 12)], .ag [.pv false (.sc (.string ⟨#[]⟩)), .pv false (.sc (.int .u64 0))]⟩ := by kernel_rfl
@[simp] theorem tyT14 : tyT 14 = some ⟨2, 24, .struct [(0, 9), (1, 12)], .ag [.pv false (.sc (.string ⟨#[]⟩)), .pv false (.sc (.int .u64 0))]⟩ := by kernel_rfl
@[simp] theorem tyT15 : tyT 15 = some ⟨1, 8, .ptr 233, .pv false (.sc (.pointer none))⟩ := by kernel_rfl
@[simp] theorem tyT16 : tyT 16 = some ⟨1, 8, .ptr 236, .pv false (.sc (.pointer none))⟩ := by kernel_rfl
@[simp] theorem tyT17 : tyT 17 = some ⟨1, 8, .ptr 243, .pv false (.sc (.pointer none))⟩ := by kernel_rfl
@[simp] theorem tyT18 : tyT 18 = some ⟨1, 8, .struct [(0, 17)], .ag [.pv false (.sc (.pointer none))]⟩ := by kernel_rfl
@[simp] theorem tyT19 : tyT 19 = some ⟨1, 8, .struct [(0, 17)], .ag [.pv false (.sc (.pointer none))]⟩ := by kernel_rfl
@[simp] theorem tyT20 : tyT 20 = some ⟨1, 16, .ifc, .pv false (.sc .nilIface)⟩ := by kernel_rfl
@[simp] theorem tyT21 : tyT 21 = some ⟨1, 4, .int .i32, .pv false (.sc (.int .i32 0))⟩ := by kernel_rfl
@[simp] theorem tyT22 : tyT 22 = some ⟨1, 24, .slice 105, .nl⟩ := by kernel_rfl
@[simp] theorem tyT23 : tyT 23 = some ⟨2, 32, .struct [(0, 22), (1, 3)], .ag [.nl, .pv false (.sc (.int .i64 0))]⟩ := by kernel_rfl
@[simp] theorem tyT24 : tyT 24 = some ⟨2, 32, .struct [(0, 22), (1, 3)], .ag [.nl, .pv false (.sc (.int .i64 0))]⟩ := by kernel_rfl
@[simp] theorem tyT25 : tyT 25 = some ⟨1, 24, .slice 5, .nl⟩ := by kernel_rfl
@[simp] theorem tyT26 : tyT 26 = some ⟨1, 8, .other, .pv false (.sc .nilFunc)⟩ := by kernel_rfl
@[simp] theorem tyT27 : tyT 27 = some ⟨1, 24, .slice 69, .nl⟩ := by kernel_rfl
@[simp] theorem tyT28 : tyT 28 = some ⟨2, 32, .struct [(0, 27), (1, 3)], .ag [.nl, .pv false (.sc (.int .i64 0))]⟩ := by kernel_rfl
@[simp] theorem tyT29 : tyT 29 = some ⟨2, 32, .struct [(0, 27), (1, 3)], .ag [.nl, .pv false (.sc (.int .i64 0))]⟩ := by kernel_rfl
@[simp] theorem tyT31 : tyT 31 = some ⟨1, 8, .other, .pv false (.sc .nilFunc)⟩ := by kernel_rfl
@[simp] theorem tyT32 : tyT 32 = some ⟨1, 8, .other, .pv false (.sc .nilFunc)⟩ := by kernel_rfl
@[simp] theorem tyT33 : tyT 33 = some ⟨1, 8, .other, .pv false (.sc .nilFunc)⟩ := by kernel_rfl
@[simp] theorem tyT34 : tyT 34 = some ⟨1, 8, .other, .pv false (.sc .nilFunc)⟩ := by kernel_rfl
@[simp] theorem tyT35 : tyT 35 = some ⟨1, 8, .other, .pv false (.sc .nilFunc)⟩ := by kernel_rfl
@[simp] theorem tyT36 : tyT 36 = some ⟨1, 8, .other, .pv false (.sc .nilFunc)⟩ := by kernel_rfl
@[simp] theorem tyT37 : tyT 37 = some ⟨1, 8, .other, .pv false (.sc .nilFunc)⟩ := by kernel_rfl
@[simp] theorem tyT38 : tyT 38 = some ⟨1, 8, .other, .pv false (.sc .nilFunc)⟩ := by kernel_rfl
@[simp] theorem tyT39 : tyT 39 = some ⟨1, 24, .slice 159, .nl⟩ := by kernel_rfl
@[simp] theorem tyT40 : tyT 40 = some ⟨5, 72, .struct [(0, 3), (1, 4), (2, 25), (3, 3), (4, 39)], .ag [.pv false (.sc (.int .i64 0)), .pv false (.sc (.bool false)), .nl, .pv false (.sc (.int .i64 0)), .nl]⟩ := by kernel_rfl
@[simp] theorem tyT41 : tyT 41 = some ⟨5, 72, .struct [(0, 3), (1, 4), (2, 25), (3, 3), (4, 39)], .ag [.pv false (.sc (.int .i64 0)), .pv false (.sc (.bool false)), .nl, .pv false (.sc (.int .i64 0)), .nl]⟩ := by kernel_rfl
@[simp] theorem tyT42 : tyT 42 = some ⟨1, 24, .slice 122, .nl⟩ := by kernel_rfl
@[simp] theorem tyT43 : tyT 43 = some ⟨7, 104, .struct [(0, 41), (5, 42), (6, 3)], .ag [.pv false (.sc (.int .i64 0)), .pv false (.sc (.bool false)), .nl, .pv false (.sc (.int .i64 0)), .nl, .nl, .pv false (.sc (.int .i64 0))]⟩ := by kernel_rfl
@[simp] theorem tyT44 : tyT 44 = some ⟨7, 104, .struct [(0, 41), (5, 42), (6, 3)], .ag [.pv false (.sc (.int .i64 0)), .pv false (.sc (.bool false)), .nl, .pv false (.sc (.int .i64 0)), .nl, .nl, .pv false (.sc (.int .i64 0))]⟩ := by kernel_rfl
@[simp] theorem tyT45 : tyT 45 = some ⟨1, 8, .other, .pv false (.sc .nilFunc)⟩ := by kernel_rfl
@[simp] theorem tyT46 : tyT 46 = some ⟨1, 24, .slice 162, .nl⟩ := by kernel_rfl
@[simp] theorem tyT47 : tyT 47 = some ⟨5, 72, .struct [(0, 3), (1, 4), (2, 25), (3, 3), (4, 46)], .ag [.pv false (.sc (.int .i64 0)), .pv false (.sc (.bool false)), .nl, .pv false (.sc (.int .i64 0)), .nl]⟩ := by kernel_rfl
@[simp] theorem tyT48 : tyT 48 = some ⟨5, 72, .struct [(0, 3), (1, 4), (2, 25), (3, 3), (4, 46)], .ag [.pv false (.sc (.int .i64 0)), .pv false (.sc (.bool false)), .nl, .pv false (.sc (.int .i64 0)), .nl]⟩ := by kernel_rfl
@[simp] theorem tyT49 : tyT 49 = some ⟨1, 24, .slice 126, .nl⟩ := by kernel_rfl
@[simp] theorem tyT50 : tyT 50 = some ⟨7, 104, .struct [(0, 48), (5, 49), (6, 3)], .ag [.pv false (.sc (.int .i64 0)), .pv false (.sc (.bool false)), .nl, .pv false (.sc (.int .i64 0)), .nl, .nl, .pv false (.sc (.int .i64 0))]⟩ := by kernel_rfl
@[simp] theorem tyT51 : tyT 51 = some ⟨7, 104, .struct [(0, 48), (5, 49), (6, 3)], .ag [.pv false (.sc (.int .i64 0)), .pv false (.sc (.bool false)), .nl, .pv false (.sc (.int .i64 0)), .nl, .nl, .pv false (.sc (.int .i64 0))]⟩ := by kernel_rfl
@[simp] theorem tyT53 : tyT 53 = some ⟨1, 8, .other, .pv false (.sc .nilFunc)⟩ := by kernel_rfl
@[simp] theorem tyT54 : tyT 54 = some ⟨1, 8, .other, .pv false (.sc .nilFunc)⟩ := by kernel_rfl
@[simp] theorem tyT55 : tyT 55 = some ⟨1, 8, .other, .pv false (.sc .nilFunc)⟩ := by kernel_rfl
@[simp] theorem tyT56 : tyT 56 = some ⟨1, 8, .other, .pv false (.sc .nilFunc)⟩ := by kernel_rfl
@[simp] theorem tyT57 : tyT 57 = some ⟨1, 8, .other, .pv false (.sc .nilFunc)⟩ := by kernel_rfl
@[simp] theorem tyT58 : tyT 58 = some ⟨1, 8, .other, .pv false (.sc .nilFunc)⟩ := by kernel_rfl
@[simp] theorem tyT59 : tyT 59 = some ⟨1, 8, .other, .pv false (.sc .nilFunc)⟩ := by kernel_rfl
@[simp] theorem tyT60 : tyT 60 = some ⟨1, 8, .other, .pv false (.sc .nilFunc)⟩ := by kernel_rfl
@[simp] theorem tyT61 : tyT 61 = some ⟨1, 8, .other, .pv false (.sc .nilFunc)⟩ := by kernel_rfl
@[simp] theorem tyT62 : tyT 62 = some ⟨1, 8, .other, .pv false (.sc .nilFunc)⟩ := by kernel_rfl
@[simp] theorem tyT63 : tyT 63 = some ⟨1, 8, .other, .pv false (.sc .nilFunc)⟩ := by kernel_rfl
@[simp] theorem tyT64 : tyT 64 = some ⟨1, 24, .slice 25, .nl⟩ := by kernel_rfl
@[simp] theorem tyT65 : tyT 65 = some ⟨1, 24, .slice 67, .nl⟩ := by kernel_rfl
@[simp] theorem tyT66 : tyT 66 = some ⟨5, 88, .struct [(0, 3), (1, 3), (2, 25), (3, 64), (4, 65)], .ag [.pv false (.sc (.int .i64 0)), .pv false (.sc (.int .i64 0)), .nl, .nl, .nl]⟩ := by kernel_rfl
@[simp] theorem tyT67 : tyT 67 = some ⟨5, 88, .struct [(0, 3), (1, 3), (2, 25), (3, 64), (4, 65)], .ag [.pv false (.sc (.int .i64 0)), .pv false (.sc (.int .i64 0)), .nl, .nl, .nl]⟩ := by kernel_rfl
@[simp] theorem tyT68 : tyT 68 = some ⟨9, 152, .struct [(0, 3), (1, 25), (2, 3), (3, 67), (8, 64)], .ag [.pv false (.sc (.int .i64 0)), .nl, .pv false (.sc (.int .i64 0)), .pv false (.sc (.int .i64 0)), .pv false (.sc (.int .i64 0)), .nl, .nl, .nl, .nl]⟩ := by kernel_rfl
@[simp] theorem tyT69 : tyT 69 = some ⟨9, 152, .struct [(0, 3), (1, 25), (2, 3), (3, 67), (8, 64)], .ag [.pv false (.sc (.int .i64 0)), .nl, .pv false (.sc (.int .i64 0)), .pv false (.sc (.int .i64 0)), .pv false (.sc (.int .i64 0)), .nl, .nl, .nl, .nl]⟩ := by kernel_rfl
@[simp] theorem tyT70 : tyT 70 = some ⟨1, 8, .other, .pv false (.sc .nilFunc)⟩ := by kernel_rfl
@[simp] theorem tyT71 : tyT 71 = some ⟨1, 8, .other, .pv false (.sc .nilFunc)⟩ := by kernel_rfl
@[simp] theorem tyT72 : tyT 72 = some ⟨1, 8, .other, .pv false (.sc .nilFunc)⟩ := by kernel_rfl
@[simp] theorem tyT73 : tyT 73 = some ⟨1, 8, .other, .pv false (.sc .nilFunc)⟩ := by kernel_rfl
@[simp] theorem tyT74 : tyT 74 = some ⟨1, 8, .other, .pv false (.sc .nilFunc)⟩ := by kernel_rfl
@[simp] theorem tyT75 : tyT 75 = some ⟨1, 8, .other, .pv false (.sc .nilFunc)⟩ := by kernel_rfl
@[simp] theorem tyT76 : tyT 76 = some ⟨1, 8, .other, .pv false (.sc .nilFunc)⟩ := by kernel_rfl
@[simp] theorem tyT77 : tyT 77 = some ⟨1, 8, .other, .pv false (.sc .nilFunc)⟩ := by kernel_rfl
@[simp] theorem tyT78 : tyT 78 = some ⟨1, 8, .other, .pv false (.sc .nilFunc)⟩ := by kernel_rfl
@[simp] theorem tyT79 : tyT 79 = some ⟨1, 8, .other, .pv false (.sc .nilFunc)⟩ := by kernel_rfl
@[simp] theorem tyT80 : tyT 80 = some ⟨1, 8, .other, .pv false (.sc .nilFunc)⟩ := by kernel_rfl
@[simp] theorem tyT81 : tyT 81 = some ⟨1, 8, .other, .pv false (.sc .nilFunc)⟩ := by kernel_rfl
@[simp] theorem tyT82 : tyT 82 = some ⟨1, 8, .ptr 86, .pv false (.sc (.pointer none))⟩ := by kernel_rfl
@[simp] theorem tyT83 : tyT 83 = some ⟨1, 8, .other, .pv false (.sc .nilFunc)⟩ := by kernel_rfl
@[simp] theorem tyT84 : tyT 84 = some ⟨1, 24, .slice 3, .nl⟩ := by kernel_rfl
@[simp] theorem tyT85 : tyT 85 = some ⟨17, 264, .struct [(0, 51), (7, 48), (12, 84), (13, 3), (14, 84), (15, 64), (16, 4)], .ag [.pv false (.sc (.int .i64 0)), .pv false (.sc (.bool false)), .nl, .pv false (.sc (.int .i64 0)), .nl, .nl, .pv false (.sc (.int .i64 0)), .pv false (.sc (.int .i64 0)), .pv false (.sc (.bool false)), .nl, .pv false (.sc (.int .i64 0)), .nl, .nl, .pv false (.sc (.int .i64 0)), .nl, .nl, .pv false (.sc (.bool false))]⟩ := by kernel_rfl
@[simp] theorem tyT86 : tyT 86 = some ⟨17, 264, .struct [(0, 51), (7, 48), (12, 84), (13, 3), (14, 84), (15, 64), (16, 4)], .ag [.pv false (.sc (.int .i64 0)), .pv false (.sc (.bool false)), .nl, .pv false (.sc (.int .i64 0)), .nl, .nl, .pv false (.sc (.int .i64 0)), .pv false (.sc (.int .i64 0)), .pv false (.sc (.bool false)), .nl, .pv false (.sc (.int .i64 0)), .nl, .nl, .pv false (.sc (.int .i64 0)), .nl, .nl, .pv false (.sc (.bool false))]⟩ := by kernel_rfl
@[simp] theorem tyT87 : tyT 87 = some ⟨1, 8, .other, .pv false (.sc .nilFunc)⟩ := by kernel_rfl
@[simp] theorem tyT88 : tyT 88 = some ⟨1, 8, .other, .pv false (.sc .nilFunc)⟩ := by kernel_rfl
@[simp] theorem tyT89 : tyT 89 = some ⟨1, 8, .other, .pv false (.sc .nilFunc)⟩ := by kernel_rfl
@[simp] theorem tyT90 : tyT 90 = some ⟨1, 8, .other, .pv false (.sc .nilFunc)⟩ := by kernel_rfl
@[simp] theorem tyT91 : tyT 91 = some ⟨1, 8, .ptr 95, .pv false (.sc (.pointer none))⟩ := by kernel_rfl
@[simp] theorem tyT92 : tyT 92 = some ⟨1, 8, .other, .pv false (.sc .nilFunc)⟩ := by kernel_rfl
@[simp] theorem tyT93 : tyT 93 = some ⟨1, 8, .other, .pv false (.sc .nilFunc)⟩ := by kernel_rfl
@[simp] theorem tyT94 : tyT 94 = some ⟨16, 256, .struct [(0, 51), (7, 48), (12, 84), (13, 93), (14, 84), (15, 64)], .ag [.pv false (.sc (.int .i64 0)), .pv false (.sc (.bool false)), .nl, .pv false (.sc (.int .i64 0)), .nl, .nl, .pv false (.sc (.int .i64 0)), .pv false (.sc (.int .i64 0)), .pv false (.sc (.bool false)), .nl, .pv false (.sc (.int .i64 0)), .nl, .nl, .pv false (.sc .nilFunc), .nl, .nl]⟩ := by kernel_rfl
@[simp] theorem tyT95 : tyT 95 = some ⟨16, 256, .struct [(0, 51), (7, 48), (12, 84), (13, 93), (14, 84), (15, 64)], .ag [.pv false (.sc (.int .i64 0)), .pv false (.sc (.bool false)), .nl, .pv false (.sc (.int .i64 0)), .nl, .nl, .pv false (.sc (.int .i64 0)), .pv false (.sc (.int .i64 0)), .pv false (.sc (.bool false)), .nl, .pv false (.sc (.int .i64 0)), .nl, .nl, .pv false (.sc .nilFunc), .nl, .nl]⟩ := by kernel_rfl
@[simp] theorem tyT96 : tyT 96 = some ⟨1, 8, .other, .pv false (.sc .nilFunc)⟩ := by kernel_rfl
@[simp] theorem tyT97 : tyT 97 = some ⟨1, 8, .other, .pv false (.sc .nilFunc)⟩ := by kernel_rfl
@[simp] theorem tyT98 : tyT 98 = some ⟨1, 8, .other, .pv false (.sc .nilFunc)⟩ := by kernel_rfl
@[simp] theorem tyT99 : tyT 99 = some ⟨1, 8, .other, .pv false (.sc .nilFunc)⟩ := by kernel_rfl
@[simp] theorem tyT100 : tyT 100 = some ⟨1, 8, .other, .pv false (.sc .nilFunc)⟩ := by kernel_rfl
@[simp] theorem tyT101 : tyT 101 = some ⟨1, 24, .slice 103, .nl⟩ := by kernel_rfl
@[simp] theorem tyT102 : tyT 102 = some ⟨5, 88, .struct [(0, 3), (1, 3), (2, 25), (3, 64), (4, 101)], .ag [.pv false (.sc (.int .i64 0)), .pv false (.sc (.int .i64 0)), .nl, .nl, .nl]⟩ := by kernel_rfl
@[simp] theorem tyT103 : tyT 103 = some ⟨5, 88, .struct [(0, 3), (1, 3), (2, 25), (3, 64), (4, 101)], .ag [.pv false (.sc (.int .i64 0)), .pv false (.sc (.int .i64 0)), .nl, .nl, .nl]⟩ := by kernel_rfl
@[simp] theorem tyT104 : tyT 104 = some ⟨9, 152, .struct [(0, 3), (1, 25), (2, 3), (3, 103), (8, 64)], .ag [.pv false (.sc (.int .i64 0)), .nl, .pv false (.sc (.int .i64 0)), .pv false (.sc (.int .i64 0)), .pv false (.sc (.int .i64 0)), .nl, .nl, .nl, .nl]⟩ := by kernel_rfl
@[simp] theorem tyT105 : tyT 105 = some ⟨9, 152, .struct [(0, 3), (1, 25), (2, 3), (3, 103), (8, 64)], .ag [.pv false (.sc (.int .i64 0)), .nl, .pv false (.sc (.int .i64 0)), .pv false (.sc (.int .i64 0)), .pv false (.sc (.int .i64 0)), .nl, .nl, .nl, .nl]⟩ := by kernel_rfl
@[simp] theorem tyT106 : tyT 106 = some ⟨1, 8, .other, .pv false (.sc .nilFunc)⟩ := by kernel_rfl
@[simp] theorem tyT107 : tyT 107 = some ⟨1, 8, .other, .pv false (.sc .nilFunc)⟩ := by kernel_rfl
@[simp] theorem tyT108 : tyT 108 = some ⟨1, 8, .other, .pv false (.sc .nilFunc)⟩ := by kernel_rfl
@[simp] theorem tyT109 : tyT 109 = some ⟨1, 8, .other, .pv false (.sc .nilFunc)⟩ := by kernel_rfl
@[simp] theorem tyT110 : tyT 110 = some ⟨1, 24, .slice 4, .nl⟩ := by kernel_rfl
@[simp] theorem tyT111 : tyT 111 = some ⟨1, 8, .other, .pv false (.sc .nilFunc)⟩ := by kernel_rfl
@[simp] theorem tyT112 : tyT 112 = some ⟨1, 8, .other, .pv false (.sc .nilFunc)⟩ := by kernel_rfl
@[simp] theorem tyT113 : tyT 113 = some ⟨1, 8, .other, .pv false (.sc .nilFunc)⟩ := by kernel_rfl
@[simp] theorem tyT114 : tyT 114 = some ⟨1, 8, .other, .pv false (.sc .nilFunc)⟩ := by kernel_rfl
@[simp] theorem tyT115 : tyT 115 = some ⟨1, 8, .other, .pv false (.sc .nilFunc)⟩ := by kernel_rfl
@[simp] theorem tyT116 : tyT 116 = some ⟨1, 8, .other, .pv false (.sc .nilFunc)⟩ := by kernel_rfl
@[simp] theorem tyT117 : tyT 117 = some ⟨1, 8, .other, .pv false (.sc .nilFunc)⟩ := by kernel_rfl
@[simp] theorem tyT118 : tyT 118 = some ⟨1, 8, .other, .pv false (.sc .nilFunc)⟩ := by kernel_rfl
@[simp] theorem tyT119 : tyT 119 = some ⟨1, 8, .other, .pv false (.sc .nilFunc)⟩ := by kernel_rfl
@[simp] theorem tyT120 : tyT 120 = some ⟨1, 8, .other, .pv false (.sc .nilFunc)⟩ := by kernel_rfl
@[simp] theorem tyT121 : tyT 121 = some ⟨9, 152, .struct [(0, 3), (1, 25), (2, 3), (3, 103), (8, 64)], .ag [.pv false (.sc (.int .i64 0)), .nl, .pv false (.sc (.int .i64 0)), .pv false (.sc (.int .i64 0)), .pv false (.sc (.int .i64 0)), .nl, .nl, .nl, .nl]⟩ := by kernel_rfl
@[simp] theorem tyT122 : tyT 122 = some ⟨9, 152, .struct [(0, 3), (1, 25), (2, 3), (3, 103), (8, 64)], .ag [.pv false (.sc (.int .i64 0)), .nl, .pv false (.sc (.int .i64 0)), .pv false (.sc (.int .i64 0)), .pv false (.sc (.int .i64 0)), .nl, .nl, .nl, .nl]⟩ := by kernel_rfl
@[simp] theorem tyT123 : tyT 123 = some ⟨1, 8, .other, .pv false (.sc .nilFunc)⟩ := by kernel_rfl
@[simp] theorem tyT124 : tyT 124 = some ⟨1, 8, .other, .pv false (.sc .nilFunc)⟩ := by kernel_rfl
@[simp] theorem tyT125 : tyT 125 = some ⟨9, 152, .struct [(0, 3), (1, 25), (2, 3), (3, 67), (8, 64)], .ag [.pv false (.sc (.int .i64 0)), .nl, .pv false (.sc (.int .i64 0)), .pv false (.sc (.int .i64 0)), .pv false (.sc (.int .i64 0)), .nl, .nl, .nl, .nl]⟩ := by kernel_rfl
@[simp] theorem tyT126 : tyT 126 = some ⟨9, 152, .struct [(0, 3), (1, 25), (2, 3), (3, 67), (8, 64)], .ag [.pv false (.sc (.int .i64 0)), .nl, .pv false (.sc (.int .i64 0)), .pv false (.sc (.int .i64 0)), .pv false (.sc (.int .i64 0)), .nl, .nl, .nl, .nl]⟩ := by kernel_rfl
@[simp] theorem tyT128 : tyT 128 = some ⟨1, 8, .other, .pv false (.sc .nilFunc)⟩ := by kernel_rfl
@[simp] theorem tyT129 : tyT 129 = some ⟨1, 8, .other, .pv false (.sc .nilFunc)⟩ := by kernel_rfl
@[simp] theorem tyT130 : tyT 130 = some ⟨1, 8, .other, .pv false (.sc .nilFunc)⟩ := by kernel_rfl
@[simp] theorem tyT131 : tyT 131 = some ⟨1, 8, .other, .pv false (.sc .nilFunc)⟩ := by kernel_rfl
@[simp] theorem tyT132 : tyT 132 = some ⟨1, 8, .other, .pv false (.sc .nilFunc)⟩ := by kernel_rfl
@[simp] theorem tyT133 : tyT 133 = some ⟨1, 8, .other, .pv false (.sc .nilFunc)⟩ := by kernel_rfl
@[simp] theorem tyT134 : tyT 134 = some ⟨1, 24, .slice 48, .nl⟩ := by kernel_rfl
@[simp] theorem tyT136 : tyT 136 = some ⟨1, 8, .other, .pv false (.sc .nilFunc)⟩ := by kernel_rfl
@[simp] theorem tyT137 : tyT 137 = some ⟨1, 8, .other, .pv false (.sc .nilFunc)⟩ := by kernel_rfl
@[simp] theorem tyT138 : tyT 138 = some ⟨1, 8, .other, .pv false (.sc .nilFunc)⟩ := by kernel_rfl
@[simp] theorem tyT139 : tyT 139 = some ⟨1, 8, .other, .pv false (.sc .nilFunc)⟩ := by kernel_rfl
@[simp] theorem tyT140 : tyT 140 = some ⟨1, 8, .other, .pv false (.sc .nilFunc)⟩ := by kernel_rfl
@[simp] theorem tyT142 : tyT 142 = some ⟨1, 8, .other, .pv false (.sc .nilFunc)⟩ := by kernel_rfl
@[simp] theorem tyT143 : tyT 143 = some ⟨1, 8, .other, .pv false (.sc .nilFunc)⟩ := by kernel_rfl
@[simp] theorem tyT144 : tyT 144 = some ⟨1, 24, .slice 9, .nl⟩ := by kernel_rfl
@[simp] theorem tyT145 : tyT 145 = some ⟨1, 8, .other, .pv false (.sc .nilFunc)⟩ := by kernel_rfl
@[simp] theorem tyT146 : tyT 146 = some ⟨1, 8, .other, .pv false (.sc .nilFunc)⟩ := by kernel_rfl
@[simp] theorem tyT148 : tyT 148 = some ⟨1, 8, .other, .pv false (.sc .nilFunc)⟩ := by kernel_rfl
@[simp] theorem tyT149 : tyT 149 = some ⟨1, 16, .ifc, .pv false (.sc .nilIface)⟩ := by kernel_rfl
@[simp] theorem tyT150 : tyT 150 = some ⟨1, 16, .ifc, .pv false (.sc .nilIface)⟩ := by kernel_rfl
@[simp] theorem tyT152 : tyT 152 = some ⟨1, 8, .other, .pv false (.sc .nilFunc)⟩ := by kernel_rfl
@[simp] theorem tyT153 : tyT 153 = some ⟨1, 8, .other, .pv false (.sc .nilFunc)⟩ := by kernel_rfl
@[simp] theorem tyT154 : tyT 154 = some ⟨1, 8, .other, .pv false (.sc .nilFunc)⟩ := by kernel_rfl
@[simp] theorem tyT155 : tyT 155 = some ⟨1, 8, .other, .pv false (.sc .nilFunc)⟩ := by kernel_rfl
@[simp] theorem tyT156 : tyT 156 = some ⟨1, 8, .other, .pv false (.sc .nilFunc)⟩ := by kernel_rfl
@[simp] theorem tyT157 : tyT 157 = some ⟨1, 8, .other, .pv false (.sc .nilFunc)⟩ := by kernel_rfl
@[simp] theorem tyT158 : tyT 158 = some ⟨9, 152, .struct [(0, 25), (1, 103), (6, 64), (7, 4), (8, 3)], .ag [.nl, .pv false (.sc (.int .i64 0)), .pv false (.sc (.int .i64 0)), .nl, .nl, .nl, .nl, .pv false (.sc (.bool false)), .pv false (.sc (.int .i64 0))]⟩ := by kernel_rfl
@[simp] theorem tyT159 : tyT 159 = some ⟨9, 152, .struct [(0, 25), (1, 103), (6, 64), (7, 4), (8, 3)], .ag [.nl, .pv false (.sc (.int .i64 0)), .pv false (.sc (.int .i64 0)), .nl, .nl, .nl, .nl, .pv false (.sc (.bool false)), .pv false (.sc (.int .i64 0))]⟩ := by kernel_rfl
@[simp] theorem tyT160 : tyT 160 = some ⟨1, 8, .other, .pv false (.sc .nilFunc)⟩ := by kernel_rfl
@[simp] theorem tyT161 : tyT 161 = some ⟨9, 152, .struct [(0, 25), (1, 67), (6, 64), (7, 4), (8, 3)], .ag [.nl, .pv false (.sc (.int .i64 0)), .pv false (.sc (.int .i64 0)), .nl, .nl, .nl, .nl, .pv false (.sc (.bool false)), .pv false (.sc (.int .i64 0))]⟩ := by kernel_rfl
@[simp] theorem tyT162 : tyT 162 = some ⟨9, 152, .struct [(0, 25), (1, 67), (6, 64), (7, 4), (8, 3)], .ag [.nl, .pv false (.sc (.int .i64 0)), .pv false (.sc (.int .i64 0)), .nl, .nl, .nl, .nl, .pv false (.sc (.bool false)), .pv false (.sc (.int .i64 0))]⟩ := by kernel_rfl
@[simp] theorem tyT163 : tyT 163 = some ⟨1, 8, .other, .pv false (.sc .nilFunc)⟩ := by kernel_rfl
@[simp] theorem tyT164 : tyT 164 = some ⟨1, 8, .other, .pv false (.sc .nilFunc)⟩ := by kernel_rfl
@[simp] theorem tyT165 : tyT 165 = some ⟨1, 8, .other, .pv false (.sc .nilFunc)⟩ := by kernel_rfl
@[simp] theorem tyT166 : tyT 166 = some ⟨1, 8, .ptr 48, .pv false (.sc (.pointer none))⟩ := by kernel_rfl
@[simp] theorem tyT167 : tyT 167 = some ⟨1, 8, .other, .pv false (.sc .nilFunc)⟩ := by kernel_rfl
@[simp] theorem tyT168 : tyT 168 = some ⟨1, 8, .other, .pv false (.sc .nilFunc)⟩ := by kernel_rfl
@[simp] theorem tyT169 : tyT 169 = some ⟨1, 8, .other, .pv false (.sc .nilFunc)⟩ := by kernel_rfl
@[simp] theorem tyT170 : tyT 170 = some ⟨1, 8, .other, .pv false (.sc .nilFunc)⟩ := by kernel_rfl
@[simp] theorem tyT171 : tyT 171 = some ⟨1, 8, .other, .pv false (.sc .nilFunc)⟩ := by kernel_rfl
@[simp] theorem tyT172 : tyT 172 = some ⟨1, 8, .other, .pv false (.sc .nilFunc)⟩ := by kernel_rfl
@[simp] theorem tyT173 : tyT 173 = some ⟨1, 8, .other, .pv false (.sc .nilFunc)⟩ := by kernel_rfl
@[simp] theorem tyT174 : tyT 174 = some ⟨1, 8, .other, .pv false (.sc .nilFunc)⟩ := by kernel_rfl
@[simp] theorem tyT175 : tyT 175 = some ⟨1, 8, .other, .pv false (.sc .nilFunc)⟩ := by kernel_rfl
@[simp] theorem tyT176 : tyT 176 = some ⟨1, 8, .other, .pv false (.sc .nilFunc)⟩ := by kernel_rfl
@[simp] theorem tyT177 : tyT 177 = some ⟨1, 8, .other, .pv false (.sc .nilFunc)⟩ := by kernel_rfl
@[simp] theorem tyT178 : tyT 178 = some ⟨1, 8, .other, .pv false (.sc .nilFunc)⟩ := by kernel_rfl
@[simp] theorem tyT179 : tyT 179 = some ⟨1, 8, .other, .pv false (.sc .nilFunc)⟩ := by kernel_rfl
@[simp] theorem tyT180 : tyT 180 = some ⟨1, 8, .other, .pv false (.sc .nilFunc)⟩ := by kernel_rfl
@[simp] theorem tyT182 : tyT 182 = some ⟨1, 8, .other, .pv false (.sc .nilFunc)⟩ := by kernel_rfl
@[simp] theorem tyT183 : tyT 183 = some ⟨1, 8, .other, .pv false (.sc .nilFunc)⟩ := by kernel_rfl
@[simp] theorem tyT184 : tyT 184 = some ⟨1, 8, .other, .pv false (.sc .nilFunc)⟩ := by kernel_rfl
@[simp] theorem tyT185 : tyT 185 = some ⟨1, 8, .other, .pv false (.sc .nilFunc)⟩ := by kernel_rfl
@[simp] theorem tyT186 : tyT 186 = some ⟨1, 8, .other, .pv false (.sc .nilFunc)⟩ := by kernel_rfl
@[simp] theorem tyT187 : tyT 187 = some ⟨1, 8, .other, .pv false (.sc .nilFunc)⟩ := by kernel_rfl
@[simp] theorem tyT188 : tyT 188 = some ⟨1, 8, .int .u64, .pv false (.sc (.int .u64 0))⟩ := by kernel_rfl
@[simp] theorem tyT189 : tyT 189 = some ⟨1, 8, .int .i64, .pv false (.sc (.int .i64 0))⟩ := by kernel_rfl
@[simp] theorem tyT191 : tyT 191 = some ⟨1, 8, .other, .pv false (.sc .nilFunc)⟩ := by kernel_rfl
@[simp] theorem tyT192 : tyT 192 = some ⟨1, 8, .ptr 210, .pv false (.sc (.pointer none))⟩ := by kernel_rfl
@[simp] theorem tyT193 : tyT 193 = some ⟨1, 8, .other, .pv false (.sc .nilFunc)⟩ := by kernel_rfl
@[simp] theorem tyT194 : tyT 194 = some ⟨1, 8, .other, .pv false (.sc .nilFunc)⟩ := by kernel_rfl
@[simp] theorem tyT195 : tyT 195 = some ⟨1, 8, .other, .pv false (.sc .nilFunc)⟩ := by kernel_rfl
@[simp] theorem tyT196 : tyT 196 = some ⟨1, 8, .other, .pv false (.sc .nilFunc)⟩ := by kernel_rfl
@[simp] theorem tyT197 : tyT 197 = some ⟨1, 8, .other, .pv false (.sc .nilFunc)⟩ := by kernel_rfl
@[simp] theorem tyT198 : tyT 198 = some ⟨1, 8, .other, .pv false (.sc .nilFunc)⟩ := by kernel_rfl
@[simp] theorem tyT199 : tyT 199 = some ⟨1, 8, .other, .pv false (.sc .nilFunc)⟩ := by kernel_rfl
@[simp] theorem tyT200 : tyT 200 = some ⟨1, 8, .other, .pv false (.sc .nilFunc)⟩ := by kernel_rfl
@[simp] theorem tyT201 : tyT 201 = some ⟨1, 8, .other, .pv false (.sc .nilFunc)⟩ := by kernel_rfl
@[simp] theorem tyT202 : tyT 202 = some ⟨1, 4, .int .u32, .pv false (.sc (.int .u32 0))⟩ := by kernel_rfl
@[simp] theorem tyT204 : tyT 204 = some ⟨1, 8, .other, .pv false (.sc .nilFunc)⟩ := by kernel_rfl
@[simp] theorem tyT205 : tyT 205 = some ⟨1, 8, .int .u64, .pv false (.sc (.int .u64 0))⟩ := by kernel_rfl
@[simp] theorem tyT207 : tyT 207 = some ⟨1, 8, .other, .pv false (.sc .nilFunc)⟩ := by kernel_rfl
@[simp] theorem tyT208 : tyT 208 = some ⟨1, 8, .other, .pv false (.sc .nilFunc)⟩ := by kernel_rfl
@[simp] theorem tyT209 : tyT 209 = some ⟨3, 48, .struct [(0, 9), (1, 9), (2, 150)], .ag [.pv false (.sc (.string ⟨#[]⟩)), .pv false (.sc (.string ⟨#[]⟩)), .pv false (.sc .nilIface)]⟩ := by kernel_rfl
@[simp] theorem tyT210 : tyT 210 = some ⟨3, 48, .struct [(0, 9), (1, 9), (2, 150)], .ag [.pv false (.sc (.string ⟨#[]⟩)), .pv false (.sc (.string ⟨#[]⟩)), .pv false (.sc .nilIface)]⟩ := by kernel_rfl
@[simp] theorem tyT211 : tyT 211 = some ⟨1, 8, .other, .pv false (.sc .nilFunc)⟩ := by kernel_rfl
@[simp] theorem tyT212 : tyT 212 = some ⟨24, 24, .arr 24 5, .ar (List.replicate 24 (.sc (.int .u8 0)))⟩ := by kernel_rfl
@[simp] theorem tyT213 : tyT 213 = some ⟨1, 8, .other, .pv false (.sc .nilFunc)⟩ := by kernel_rfl
@[simp] theorem tyT214 : tyT 214 = some ⟨1, 8, .other, .pv false (.sc .nilFunc)⟩ := by kernel_rfl
@[simp] theorem tyT216 : tyT 216 = some ⟨1, 8, .other, .pv false (.sc .nilFunc)⟩ := by kernel_rfl
@[simp] theorem tyT217 : tyT 217 = some ⟨1, 8, .other, .pv false (.sc .nilFunc)⟩ := by kernel_rfl
@[simp] theorem tyT218 : tyT 218 = some ⟨1, 8, .other, .pv false (.sc .nilFunc)⟩ := by kernel_rfl
@[simp] theorem tyT219 : tyT 219 = some ⟨1, 8, .ptr 5, .pv false (.sc (.pointer none))⟩ := by kernel_rfl
@[simp] theorem tyT220 : tyT 220 = some ⟨1, 8, .ptr 222, .pv false (.sc (.pointer none))⟩ := by kernel_rfl
@[simp] theorem tyT221 : tyT 221 = some ⟨1, 16, .struct [(0, 9)], .ag [.pv false (.sc (.string ⟨#[]⟩))]⟩ := by kernel_rfl
@[simp] theorem tyT222 : tyT 222 = some ⟨1, 16, .struct [(0, 9)], .ag [.pv false (.sc (.string ⟨#[]⟩))]⟩ := by kernel_rfl
@[simp] theorem tyT223 : tyT 223 = some ⟨1, 8, .other, .pv false (.sc .nilFunc)⟩ := by kernel_rfl
@[simp] theorem tyT224 : tyT 224 = some ⟨20, 160, .arr 20 205, .ar (List.replicate 20 (.sc (.int .u64 0)))⟩ := by kernel_rfl
@[simp] theorem tyT225 : tyT 225 = some ⟨65, 65, .arr 65 5, .ar (List.replicate 65 (.sc (.int .u8 0)))⟩ := by kernel_rfl
@[simp] theorem tyT226 : tyT 226 = some ⟨1, 8, .other, .pv false (.sc .nilFunc)⟩ := by kernel_rfl
@[simp] theorem tyT227 : tyT 227 = some ⟨1, 8, .other, .pv false (.sc .nilFunc)⟩ := by kernel_rfl
@[simp] theorem tyT228 : tyT 228 = some ⟨1, 8, .other, .pv false (.sc .nilFunc)⟩ := by kernel_rfl
@[simp] theorem tyT229 : tyT 229 = some ⟨32, 32, .arr 32 5, .ar (List.replicate 32 (.sc (.int .u8 0)))⟩ := by kernel_rfl
@[simp] theorem tyT230 : tyT 230 = some ⟨64, 64, .arr 64 5, .ar (List.replicate 64 (.sc (.int .u8 0)))⟩ := by kernel_rfl
@[simp] theorem tyT231 : tyT 231 = some ⟨1, 8, .other, .pv false (.sc .nilFunc)⟩ := by kernel_rfl
@[simp] theorem tyT232 : tyT 232 = some ⟨4, 40, .struct [(0, 17), (1, 17), (2, 17), (3, 9)], .ag [.pv false (.sc (.pointer none)), .pv false (.sc (.pointer none)), .pv false (.sc (.pointer none)), .pv false (.sc (.string ⟨#[]⟩))]⟩ := by kernel_rfl
@[simp] theorem tyT233 : tyT 233 = some ⟨4, 40, .struct [(0, 17), (1, 17), (2, 17), (3, 9)], .ag [.pv false (.sc (.pointer none)), .pv false (.sc (.pointer none)), .pv false (.sc (.pointer none)), .pv false (.sc (.string ⟨#[]⟩))]⟩ := by kernel_rfl
@[simp] theorem tyT234 : tyT 234 = some ⟨0, 0, .arr 0 16, .ar []⟩ := by kernel_rfl
@[simp] theorem tyT237 : tyT 237 = some ⟨1, 1, .int .u8, .pv false (.sc (.int .u8 0))⟩ := by kernel_rfl
@[simp] theorem tyT238 : tyT 238 = some ⟨1, 1, .int .u8, .pv false (.sc (.int .u8 0))⟩ := by kernel_rfl
@[simp] theorem tyT239 : tyT 239 = some ⟨1, 8, .other, .pv false (.sc .nilFunc)⟩ := by kernel_rfl
@[simp] theorem tyT240 : tyT 240 = some ⟨1, 4, .int .i32, .pv false (.sc (.int .i32 0))⟩ := by kernel_rfl
@[simp] theorem tyT241 : tyT 241 = some ⟨1, 4, .int .i32, .pv false (.sc (.int .i32 0))⟩ := by kernel_rfl
@[simp] theorem tyT242 : tyT 242 = some ⟨11, 48, .struct [(0, 12), (1, 12), (2, 202), (3, 237), (4, 5), (5, 5), (6, 238), (7, 239), (8, 219), (9, 240), (10, 241)], .ag [.pv false (.sc (.int .u64 0)), .pv false (.sc (.int .u64 0)), .pv false (.sc (.int .u32 0)), .pv false (.sc (.int .u8 0)), .pv false (.sc (.int .u8 0)), .pv false (.sc (.int .u8 0)), .pv false (.sc (.int .u8 0)), .pv false (.sc .nilFunc), .pv false (.sc (.pointer none)), .pv false (.sc (.int .i32 0)), .pv false (.sc (.int .i32 0))]⟩ := by kernel_rfl
@[simp] theorem tyT243 : tyT 243 = some ⟨11, 48, .struct [(0, 12), (1, 12), (2, 202), (3, 237), (4, 5), (5, 5), (6, 238), (7, 239), (8, 219), (9, 240), (10, 241)], .ag [.pv false (.sc (.int .u64 0)), .pv false (.sc (.int .u64 0)), .pv false (.sc (.int .u32 0)), .pv false (.sc (.int .u8 0)), .pv false (.sc (.int .u8 0)), .pv false (.sc (.int .u8 0)), .pv false (.sc (.int .u8 0)), .pv false (.sc .nilFunc), .pv false (.sc (.pointer none)), .pv false (.sc (.int .i32 0)), .pv false (.sc (.int .i32 0))]⟩ := by kernel_rfl
@[simp] theorem tyT244 : tyT 244 = some ⟨1, 8, .other, .pv false (.sc (.pointer none))⟩ := by kernel_rfl
@[simp] theorem sg4 : sgOf 4 = ⟨[], .d, false⟩ := rfl
@[simp] theorem sg5 : sgOf 5 = ⟨[], .d, false⟩ := rfl
@[simp] theorem sg7 : sgOf 7 = ⟨[], .d, true⟩ := rfl
@[simp] theorem sg8 : sgOf 8 = ⟨[], .d, true⟩ := rfl
@[simp] theorem sg10 : sgOf 10 = ⟨[], .d, false⟩ := rfl
@[simp] theorem sg11 : sgOf 11 = ⟨[], .d, false⟩ := rfl
@[simp] theorem sg12 : sgOf 12 = ⟨[true], .d, false⟩ := rfl
@[simp] theorem sg13 : sgOf 13 = ⟨[true], .d, false⟩ := rfl
@[simp] theorem sg15 : sgOf 15 = ⟨[], .d, false⟩ := rfl
@[simp] theorem sg16 : sgOf 16 = ⟨[], .d, false⟩ := rfl
@[simp] theorem sg17 : sgOf 17 = ⟨[], .d, true⟩ := rfl
@[simp] theorem sg18 : sgOf 18 = ⟨[], .d, false⟩ := rfl
@[simp] theorem sg19 : sgOf 19 = ⟨[], .d, false⟩ := rfl
@[simp] theorem sg20 : sgOf 20 = ⟨[true], .d, false⟩ := rfl
@[simp] theorem sg21 : sgOf 21 = ⟨[], .d, false⟩ := rfl
@[simp] theorem sg22 : sgOf 22 = ⟨[], .d, false⟩ := rfl
@[simp] theorem sg23 : sgOf 23 = ⟨[], .own 5 1, false⟩ := rfl
@[simp] theorem sg26 : sgOf 26 = ⟨[], .d, true⟩ := rfl
@[simp] theorem sg27 : sgOf 27 = ⟨[], .d, false⟩ := rfl
@[simp] theorem sg28 : sgOf 28 = ⟨[], .d, false⟩ := rfl
@[simp] theorem sg32 : sgOf 32 = ⟨[], .d, false⟩ := rfl
@[simp] theorem sg34 : sgOf 34 = ⟨[], .d, false⟩ := rfl
@[simp] theorem sg35 : sgOf 35 = ⟨[], .d, false⟩ := rfl
@[simp] theorem sg36 : sgOf 36 = ⟨[], .d, false⟩ := rfl
@[simp] theorem sg37 : sgOf 37 = ⟨[], .d, false⟩ := rfl
@[simp] theorem sg38 : sgOf 38 = ⟨[true], .d, false⟩ := rfl
@[simp] theorem sg40 : sgOf 40 = ⟨[], .d, false⟩ := rfl
@[simp] theorem sg41 : sgOf 41 = ⟨[], .d, false⟩ := rfl
@[simp] theorem sg42 : sgOf 42 = ⟨[], .d, false⟩ := rfl
@[simp] theorem sg43 : sgOf 43 = ⟨[], .any, false⟩ := rfl
@[simp] theorem sg44 : sgOf 44 = ⟨[true], .d, false⟩ := rfl
@[simp] theorem sg45 : sgOf 45 = ⟨[], .d, false⟩ := rfl
@[simp] theorem sg46 : sgOf 46 = ⟨[], .d, true⟩ := rfl
@[simp] theorem sg47 : sgOf 47 = ⟨[], .d, true⟩ := rfl
@[simp] theorem sg48 : sgOf 48 = ⟨[], .d, false⟩ := rfl
@[simp] theorem sg49 : sgOf 49 = ⟨[], .d, false⟩ := rfl
@[simp] theorem sg50 : sgOf 50 = ⟨[], .d, false⟩ := rfl
@[simp] theorem sg51 : sgOf 51 = ⟨[], .d, false⟩ := rfl
@[simp] theorem sg52 : sgOf 52 = ⟨[], .d, false⟩ := rfl
@[simp] theorem sg53 : sgOf 53 = ⟨[true], .d, false⟩ := rfl
@[simp] theorem sg54 : sgOf 54 = ⟨[true], .d, false⟩ := rfl
@[simp] theorem sg55 : sgOf 55 = ⟨[], .d, false⟩ := rfl
@[simp] theorem sg56 : sgOf 56 = ⟨[], .d, false⟩ := rfl
@[simp] theorem sg57 : sgOf 57 = ⟨[], .d, false⟩ := rfl
@[simp] theorem sg58 : sgOf 58 = ⟨[], .d, false⟩ := rfl
@[simp] theorem sg59 : sgOf 59 = ⟨[], .d, false⟩ := rfl
@[simp] theorem sg60 : sgOf 60 = ⟨[], .d, false⟩ := rfl
@[simp] theorem sg61 : sgOf 61 = ⟨[], .own 5 1, false⟩ := rfl
@[simp] theorem sg62 : sgOf 62 = ⟨[], .own 5 1, false⟩ := rfl
@[simp] theorem sg63 : sgOf 63 = ⟨[], .d, false⟩ := rfl
@[simp] theorem sg64 : sgOf 64 = ⟨[], .d, false⟩ := rfl
@[simp] theorem sg65 : sgOf 65 = ⟨[], .d, true⟩ := rfl
@[simp] theorem sg66 : sgOf 66 = ⟨[], .d, false⟩ := rfl
@[simp] theorem sg67 : sgOf 67 = ⟨[], .d, false⟩ := rfl
@[simp] theorem sg68 : sgOf 68 = ⟨[], .d, false⟩ := rfl
@[simp] theorem sg69 : sgOf 69 = ⟨[], .d, false⟩ := rfl
@[simp] theorem sg70 : sgOf 70 = ⟨[], .d, false⟩ := rfl
@[simp] theorem sg74 : sgOf 74 = ⟨[], .d, false⟩ := rfl
@[simp] theorem sg75 : sgOf 75 = ⟨[true], .d, false⟩ := rfl
@[simp] theorem sg76 : sgOf 76 = ⟨[true], .d, false⟩ := rfl
@[simp] theorem sg77 : sgOf 77 = ⟨[], .d, false⟩ := rfl
@[simp] theorem sg78 : sgOf 78 = ⟨[], .d, false⟩ := rfl
@[simp] theorem sg79 : sgOf 79 = ⟨[], .d, false⟩ := rfl
@[simp] theorem sg80 : sgOf 80 = ⟨[], .d, false⟩ := rfl
@[simp] theorem sg81 : sgOf 81 = ⟨[], .d, false⟩ := rfl
@[simp] theorem sg82 : sgOf 82 = ⟨[], .d, false⟩ := rfl
@[simp] theorem sg83 : sgOf 83 = ⟨[], .d, false⟩ := rfl
@[simp] theorem sg84 : sgOf 84 = ⟨[], .d, false⟩ := rfl
@[simp] theorem sg85 : sgOf 85 = ⟨[], .tu [.d, .d], false⟩ := rfl
@[simp] theorem sg86 : sgOf 86 = ⟨[], .d, false⟩ := rfl
@[simp] theorem sg87 : sgOf 87 = ⟨[true, false, false], .d, false⟩ := rfl
@[simp] theorem sg88 : sgOf 88 = ⟨[], .d, false⟩ := rfl
@[simp] theorem sg89 : sgOf 89 = ⟨[], .d, true⟩ := rfl
@[simp] theorem sg90 : sgOf 90 = ⟨[], .d, true⟩ := rfl
@[simp] theorem sg91 : sgOf 91 = ⟨[], .tu [.d, .d], false⟩ := rfl
@[simp] theorem sg92 : sgOf 92 = ⟨[], .d, false⟩ := rfl
@[simp] theorem sg93 : sgOf 93 = ⟨[], .d, false⟩ := rfl
@[simp] theorem sg94 : sgOf 94 = ⟨[], .d, false⟩ := rfl
@[simp] theorem sg95 : sgOf 95 = ⟨[], .d, false⟩ := rfl
@[simp] theorem sg96 : sgOf 96 = ⟨[], .d, false⟩ := rfl
@[simp] theorem sg97 : sgOf 97 = ⟨[true], .d, false⟩ := rfl
@[simp] theorem sg98 : sgOf 98 = ⟨[], .d, false⟩ := rfl
@[simp] theorem sg99 : sgOf 99 = ⟨[], .d, false⟩ := rfl
@[simp] theorem sg100 : sgOf 100 = ⟨[], .d, false⟩ := rfl
@[simp] theorem sg101 : sgOf 101 = ⟨[], .tu [.d, .d, .d], false⟩ := rfl
@[simp] theorem sg102 : sgOf 102 = ⟨[], .d, false⟩ := rfl
@[simp] theorem sg103 : sgOf 103 = ⟨[], .own 5 1, false⟩ := rfl
@[simp] theorem sg104 : sgOf 104 = ⟨[], .d, true⟩ := rfl
@[simp] theorem sg105 : sgOf 105 = ⟨[], .d, true⟩ := rfl
@[simp] theorem sg106 : sgOf 106 = ⟨[], .tu [.d, .d, .d], false⟩ := rfl
@[simp] theorem sg107 : sgOf 107 = ⟨[], .d, false⟩ := rfl
@[simp] theorem sg108 : sgOf 108 = ⟨[], .tu [.d, .d], false⟩ := rfl
@[simp] theorem sg109 : sgOf 109 = ⟨[], .tu [.d, .d], false⟩ := rfl
@[simp] theorem sg110 : sgOf 110 = ⟨[], .d, false⟩ := rfl
@[simp] theorem sg111 : sgOf 111 = ⟨[], .d, false⟩ := rfl
@[simp] theorem sg112 : sgOf 112 = ⟨[], .d, false⟩ := rfl
@[simp] theorem sg113 : sgOf 113 = ⟨[], .d, false⟩ := rfl
@[simp] theorem sg115 : sgOf 115 = ⟨[], .d, false⟩ := rfl
@[simp] theorem sg116 : sgOf 116 = ⟨[], .d, false⟩ := rfl
@[simp] theorem sg117 : sgOf 117 = ⟨[], .d, false⟩ := rfl
@[simp] theorem sg118 : sgOf 118 = ⟨[], .d, false⟩ := rfl
@[simp] theorem sg119 : sgOf 119 = ⟨[], .d, false⟩ := rfl
@[simp] theorem sg120 : sgOf 120 = ⟨[], .d, false⟩ := rfl
@[simp] theorem sg121 : sgOf 121 = ⟨[], .d, false⟩ := rfl
@[simp] theorem sg122 : sgOf 122 = ⟨[], .d, false⟩ := rfl
@[simp] theorem sg123 : sgOf 123 = ⟨[true], .d, false⟩ := rfl
@[simp] theorem sg124 : sgOf 124 = ⟨[], .d, false⟩ := rfl
@[simp] theorem sg125 : sgOf 125 = ⟨[], .d, true⟩ := rfl
@[simp] theorem sg126 : sgOf 126 = ⟨[], .d, false⟩ := rfl
@[simp] theorem sg127 : sgOf 127 = ⟨[], .ag [.d, .d, .d, .d, .own 162 9], false⟩ := rfl
@[simp] theorem sg128 : sgOf 128 = ⟨[], .d, false⟩ := rfl
@[simp] theorem sg129 : sgOf 129 = ⟨[], .tu [.d, .d], false⟩ := rfl
@[simp] theorem sg130 : sgOf 130 = ⟨[], .d, false⟩ := rfl
@[simp] theorem sg131 : sgOf 131 = ⟨[], .d, false⟩ := rfl
@[simp] theorem sg132 : sgOf 132 = ⟨[], .d, false⟩ := rfl
@[simp] theorem sg133 : sgOf 133 = ⟨[], .d, false⟩ := rfl
@[simp] theorem sg134 : sgOf 134 = ⟨[], .d, false⟩ := rfl
@[simp] theorem sg135 : sgOf 135 = ⟨[], .d, false⟩ := rfl
@[simp] theorem sg136 : sgOf 136 = ⟨[], .d, false⟩ := rfl
@[simp] theorem sg137 : sgOf 137 = ⟨[], .d, true⟩ := rfl
@[simp] theorem sg138 : sgOf 138 = ⟨[], .d, false⟩ := rfl
@[simp] theorem sg139 : sgOf 139 = ⟨[], .d, false⟩ := rfl
@[simp] theorem sg140 : sgOf 140 = ⟨[], .d, false⟩ := rfl
@[simp] theorem sg143 : sgOf 143 = ⟨[], .d, false⟩ := rfl
@[simp] theorem sg144 : sgOf 144 = ⟨[], .d, false⟩ := rfl
@[simp] theorem sg145 : sgOf 145 = ⟨[], .d, false⟩ := rfl
@[simp] theorem sg146 : sgOf 146 = ⟨[], .d, false⟩ := rfl
@[simp] theorem sg147 : sgOf 147 = ⟨[], .d, false⟩ := rfl
@[simp] theorem sg149 : sgOf 149 = ⟨[], .d, false⟩ := rfl
@[simp] theorem sg150 : sgOf 150 = ⟨[], .d, false⟩ := rfl
@[simp] theorem sg151 : sgOf 151 = ⟨[], .d, false⟩ := rfl
@[simp] theorem sg152 : sgOf 152 = ⟨[], .own 162 9, false⟩ := rfl
@[simp] theorem sg153 : sgOf 153 = ⟨[], .d, false⟩ := rfl
@[simp] theorem sg154 : sgOf 154 = ⟨[], .d, false⟩ := rfl
@[simp] theorem sg155 : sgOf 155 = ⟨[], .tu [.d, .d], false⟩ := rfl
@[simp] theorem sg156 : sgOf 156 = ⟨[], .d, false⟩ := rfl
@[simp] theorem sg157 : sgOf 157 = ⟨[], .d, false⟩ := rfl
@[simp] theorem sg158 : sgOf 158 = ⟨[true, false, true], .own 162 9, false⟩ := rfl
@[simp] theorem sg159 : sgOf 159 = ⟨[true], .own 162 9, false⟩ := rfl
@[simp] theorem sg160 : sgOf 160 = ⟨[true], .d, false⟩ := rfl
@[simp] theorem sg161 : sgOf 161 = ⟨[], .d, false⟩ := rfl
@[simp] theorem sg170 : sgOf 170 = ⟨[], .d, false⟩ := rfl
@[simp] theorem sg171 : sgOf 171 = ⟨[], .d, false⟩ := rfl
@[simp] theorem sg172 : sgOf 172 = ⟨[], .d, false⟩ := rfl
@[simp] theorem sg173 : sgOf 173 = ⟨[], .d, false⟩ := rfl
@[simp] theorem sg174 : sgOf 174 = ⟨[], .d, false⟩ := rfl
@[simp] theorem sg175 : sgOf 175 = ⟨[], .d, false⟩ := rfl
@[simp] theorem sg176 : sgOf 176 = ⟨[], .d, false⟩ := rfl
@[simp] theorem sg177 : sgOf 177 = ⟨[], .tu [.d, .d], false⟩ := rfl
@[simp] theorem sg178 : sgOf 178 = ⟨[], .d, false⟩ := rfl
@[simp] theorem sg179 : sgOf 179 = ⟨[], .d, false⟩ := rfl
@[simp] theorem sg181 : sgOf 181 = ⟨[], .d, false⟩ := rfl
@[simp] theorem sg186 : sgOf 186 = ⟨[], .d, false⟩ := rfl
@[simp] theorem sg187 : sgOf 187 = ⟨[], .d, false⟩ := rfl
@[simp] theorem sg188 : sgOf 188 = ⟨[true], .d, false⟩ := rfl
@[simp] theorem sg190 : sgOf 190 = ⟨[], .d, false⟩ := rfl
theorem mixed : Tryz.prog.follows .mixedOrders = true := by kernel_rfl
theorem names_ok : (Tryz.prog.funcs.all fun fn => !(fn.name == "runtime.NumGoroutine")) = true := by kernel_rfl
theorem dsts_ok : (Tryz.prog.funcs.all fun fn => match fn.body with | some c => codeOk fn.ntmps c | none => true) = true := by kernel_rfl
theorem plan4_5 : plan bs0 ((opsOf 5 (code Tryz.f4)).getD #[]) = some (.lt 0 (.hv 1 [] (.hv 2 [] (.lt 3 (.lt 4 (.lt 5 (.hv 6 [5, 4, 3, 0] (.hv 7 [5] (.lt 8 (.fin)) (.no)) (.no))))) (.hv 6 [0] (.hv 2 [] (.lt 3 (.lt 4 (.lt 5 (.hv 7 [5] (.lt 8 (.fin)) (.no))))) (.no)) (.no))) (.hv 6 [0] (.hv 1 [] (.hv 2 [] (.lt 3 (.lt 4 (.lt 5 (.hv 7 [5] (.lt 8 (.fin)) (.no))))) (.no)) (.no)) (.no)))) := by kernel_rfl
theorem plan4_7 : plan bs0 ((opsOf 7 (code Tryz.f4)).getD #[]) = some (.lt 0 (.hv 1 [] (.lt 2 (.lt 3 (.lt 4 (.hv 5 [4, 3, 2, 0] (.hv 6 [4] (.lt 7 (.fin)) (.no)) (.no))))) (.hv 5 [0] (.hv 1 [] (.lt 2 (.lt 3 (.lt 4 (.hv 6 [4] (.lt 7 (.fin)) (.no))))) (.no)) (.no)))) := by kernel_rfl
theorem plan4_10 : plan bs0 ((opsOf 10 (code Tryz.f4)).getD #[]) = some (.lt 0 (.lt 1 (.hv 2 [0] (.hv 3 [] (.lt 4 (.fin)) (.no)) (.no)))) := by kernel_rfl
theorem plan4_24 : plan bs0 ((opsOf 24 (code Tryz.f4)).getD #[]) = some (.lt 0 (.hv 1 [] (.hv 2 [] (.lt 3 (.lt 4 (.lt 5 (.hv 6 [5, 4, 3, 0] (.hv 7 [5] (.lt 8 (.fin)) (.no)) (.no))))) (.hv 6 [0] (.hv 2 [] (.lt 3 (.lt 4 (.lt 5 (.hv 7 [5] (.lt 8 (.fin)) (.no))))) (.no)) (.no))) (.hv 6 [0] (.hv 1 [] (.hv 2 [] (.lt 3 (.lt 4 (.lt 5 (.hv 7 [5] (.lt 8 (.fin)) (.no))))) (.no)) (.no)) (.no)))) := by kernel_rfl
theorem plan11_6 : plan bs0 ((opsOf 6 (code Tryz.f11)).getD #[]) = some (.lt 0 (.lt 1 (.lt 2 (.lt 3 (.lt 4 (.lt 5 (.lt 6 (.lt 7 (.lt 8 (.fin)))))))))) := by kernel_rfl
theorem plan16_6 : plan bs0 ((opsOf 6 (code Tryz.f16)).getD #[]) = some (.lt 0 (.lt 1 (.lt 2 (.lt 3 (.lt 5 (.hv 4 [5] (.lt 6 (.lt 7 (.lt 8 (.lt 9 (.lt 10 (.lt 11 (.lt 12 (.lt 13 (.hv 14 [13, 12, 11, 10, 9, 8, 7] (.lt 15 (.fin)) (.no)))))))))) (.no))))))) := by kernel_rfl
theorem plan18_6 : plan bs0 ((opsOf 6 (code Tryz.f18)).getD #[]) = some (.lt 0 (.lt 1 (.lt 2 (.lt 3 (.lt 4 (.lt 5 (.lt 6 (.lt 7 (.lt 8 (.lt 9 (.lt 10 (.lt 11 (.lt 12 (.hv 13 [12, 11, 10, 9, 8, 7, 6] (.lt 14 (.fin)) (.no))))))))))))))) := by kernel_rfl
theorem plan35_1 : plan bs0 ((opsOf 1 (code Tryz.f35)).getD #[]) = some (.lt 0 (.lt 1 (.lt 2 (.lt 3 (.lt 4 (.lt 5 (.lt 7 (.lt 8 (.hv 6 [8, 7, 3, 2, 1, 0] (.hv 9 [3, 2, 1, 0] (.lt 10 (.hv 11 [10, 8, 7, 5, 4, 3, 2, 1, 0] (.hv 12 [] (.fin) (.no)) (.no))) (.hv 11 [8, 7, 5, 4, 3, 2, 1, 0] (.hv 9 [3, 2, 1, 0] (.lt 10 (.hv 12 [] (.fin) (.no))) (.no)) (.no))) (.hv 11 [8, 7, 5, 4, 3, 2, 1, 0] (.hv 6 [8, 7, 3, 2, 1, 0] (.hv 9 [3, 2, 1, 0] (.lt 10 (.hv 12 [] (.fin) (.no))) (.no)) (.no)) (.no))))))))))) := by kernel_rfl
theorem plan35_5 : plan bs0 ((opsOf 5 (code Tryz.f35)).getD #[]) = some (.lt 0 (.lt 1 (.lt 2 (.hv 3 [1, 0] (.hv 4 [1, 0] (.hv 5 [] (.lt 6 (.hv 7 [] (.fin) (.no))) (.no)) (.no)) (.no))))) := by kernel_rfl
theorem plan42_8 : plan bs0 ((opsOf 8 (code Tryz.f42)).getD #[]) = some (.lt 0 (.lt 1 (.lt 2 (.lt 3 (.hv 4 [] (.lt 5 (.lt 6 (.lt 7 (.hv 8 [7, 6, 5, 3, 2, 1, 0] (.hv 9 [7] (.lt 10 (.fin)) (.no)) (.no))))) (.hv 8 [3, 2, 1, 0] (.hv 4 [] (.lt 5 (.lt 6 (.lt 7 (.hv 9 [7] (.lt 10 (.fin)) (.no))))) (.no)) (.no))))))) := by kernel_rfl
theorem plan43_1 : plan bs0 ((opsOf 1 (code Tryz.f43)).getD #[]) = some (.lt 0 (.lt 1 (.lt 2 (.lt 3 (.hv 4 [] (.lt 5 (.lt 6 (.lt 7 (.hv 8 [7, 6, 5, 3, 2, 1, 0] (.hv 9 [7] (.lt 10 (.fin)) (.no)) (.no))))) (.hv 8 [3, 2, 1, 0] (.hv 4 [] (.lt 5 (.lt 6 (.lt 7 (.hv 9 [7] (.lt 10 (.fin)) (.no))))) (.no)) (.no))))))) := by kernel_rfl
theorem plan43_2 : plan bs0 ((opsOf 2 (code Tryz.f43)).getD #[]) = some (.lt 0 (.lt 1 (.hv 2 [0] (.lt 3 (.hv 4 [] (.lt 5 (.fin)) (.no))) (.no)))) := by kernel_rfl
theorem plan45_1 : plan bs0 ((opsOf 1 (code Tryz.f45)).getD #[]) = some (.lt 0 (.lt 1 (.lt 3 (.lt 4 (.hv 2 [4, 3] (.lt 5 (.hv 6 [5, 4, 3, 1, 0] (.hv 7 [] (.fin) (.no)) (.no))) (.hv 6 [4, 3, 1, 0] (.hv 2 [4, 3] (.lt 5 (.hv 7 [] (.fin) (.no))) (.no)) (.no))))))) := by kernel_rfl
theorem plan45_5 : plan bs0 ((opsOf 5 (code Tryz.f45)).getD #[]) = some (.lt 0 (.lt 1 (.lt 2 (.lt 3 (.lt 4 (.lt 5 (.lt 6 (.hv 7 [1, 0] (.hv 8 [1, 0] (.hv 9 [] (.lt 10 (.hv 11 [] (.fin) (.no))) (.no)) (.no)) (.no))))))))) := by kernel_rfl
theorem plan48_1 : plan bs0 ((opsOf 1 (code Tryz.f48)).getD #[]) = some (.lt 0 (.hv 1 [] (.lt 2 (.lt 3 (.lt 4 (.lt 5 (.lt 6 (.fin)))))) (.no))) := by kernel_rfl
theorem plan49_1 : plan bs0 ((opsOf 1 (code Tryz.f49)).getD #[]) = some (.lt 0 (.hv 1 [] (.lt 2 (.lt 3 (.lt 4 (.lt 5 (.lt 6 (.fin)))))) (.no))) := by kernel_rfl
theorem plan49_2 : plan bs0 ((opsOf 2 (code Tryz.f49)).getD #[]) = some (.lt 0 (.lt 2 (.lt 3 (.lt 4 (.lt 5 (.lt 6 (.lt 7 (.lt 8 (.hv 1 [8, 7, 6, 5, 4, 3, 2] (.lt 9 (.hv 10 [] (.lt 11 (.fin)) (.no))) (.no)))))))))) := by kernel_rfl
theorem plan52_6 : plan bs0 ((opsOf 6 (code Tryz.f52)).getD #[]) = some (.lt 0 (.lt 1 (.lt 2 (.lt 3 (.lt 4 (.lt 5 (.lt 6 (.lt 7 (.hv 8 [] (.lt 9 (.fin)) (.no)))))))))) := by kernel_rfl
theorem plan58_1 : plan bs0 ((opsOf 1 (code Tryz.f58)).getD #[]) = some (.lt 0 (.hv 1 [] (.lt 2 (.lt 3 (.lt 4 (.lt 5 (.lt 6 (.lt 7 (.lt 8 (.fin)))))))) (.no))) := by kernel_rfl
theorem plan63_1 : plan bs0 ((opsOf 1 (code Tryz.f63)).getD #[]) = some (.lt 0 (.lt 1 (.lt 2 (.lt 3 (.lt 5 (.lt 6 (.hv 4 [6, 5, 3, 2, 1, 0] (.hv 7 [3, 2, 1, 0] (.lt 8 (.hv 9 [8, 6, 5, 3, 2, 1, 0] (.hv 10 [] (.fin) (.no)) (.no))) (.hv 9 [6, 5, 3, 2, 1, 0] (.hv 7 [3, 2, 1, 0] (.lt 8 (.hv 10 [] (.fin) (.no))) (.no)) (.no))) (.hv 9 [6, 5, 3, 2, 1, 0] (.hv 4 [6, 5, 3, 2, 1, 0] (.hv 7 [3, 2, 1, 0] (.lt 8 (.hv 10 [] (.fin) (.no))) (.no)) (.no)) (.no))))))))) := by kernel_rfl
theorem plan63_5 : plan bs0 ((opsOf 5 (code Tryz.f63)).getD #[]) = some (.lt 0 (.lt 1 (.lt 3 (.lt 4 (.lt 5 (.lt 6 (.lt 7 (.hv 2 [7, 6, 5, 4, 3, 1, 0] (.hv 8 [1, 0] (.hv 9 [1, 0] (.hv 10 [] (.lt 11 (.hv 12 [] (.fin) (.no))) (.no)) (.no)) (.no)) (.no))))))))) := by kernel_rfl
theorem plan63_9 : plan bs0 ((opsOf 9 (code Tryz.f63)).getD #[]) = some (.lt 0 (.lt 1 (.lt 2 (.lt 3 (.lt 4 (.lt 5 (.lt 6 (.hv 7 [1, 0] (.hv 8 [1, 0] (.hv 9 [] (.lt 10 (.hv 11 [] (.fin) (.no))) (.no)) (.no)) (.no))))))))) := by kernel_rfl
theorem plan68_1 : plan bs0 ((opsOf 1 (code Tryz.f68)).getD #[]) = some (.lt 0 (.hv 1 [0] (.hv 2 [0] (.hv 3 [] (.lt 4 (.lt 5 (.lt 6 (.lt 7 (.lt 8 (.lt 9 (.lt 10 (.fin)))))))) (.no)) (.no)) (.no))) := by kernel_rfl
theorem plan68_6 : plan bs0 ((opsOf 6 (code Tryz.f68)).getD #[]) = some (.lt 0 (.hv 1 [0] (.hv 2 [0] (.hv 3 [] (.lt 4 (.lt 5 (.lt 6 (.lt 7 (.lt 8 (.fin)))))) (.no)) (.no)) (.no))) := by kernel_rfl
theorem plan68_7 : plan bs0 ((opsOf 7 (code Tryz.f68)).getD #[]) = some (.lt 0 (.hv 1 [0] (.hv 2 [0] (.hv 3 [] (.lt 4 (.lt 5 (.lt 6 (.lt 7 (.lt 8 (.fin)))))) (.no)) (.no)) (.no))) := by kernel_rfl
theorem plan68_8 : plan bs0 ((opsOf 8 (code Tryz.f68)).getD #[]) = some (.lt 0 (.hv 1 [0] (.hv 2 [0] (.hv 3 [] (.lt 4 (.lt 5 (.lt 6 (.lt 7 (.lt 8 (.fin)))))) (.no)) (.no)) (.no))) := by kernel_rfl
theorem plan68_11 : plan bs0 ((opsOf 11 (code Tryz.f68)).getD #[]) = some (.lt 0 (.lt 1 (.hv 2 [] (.lt 3 (.lt 4 (.lt 5 (.lt 6 (.lt 7 (.fin)))))) (.no)))) := by kernel_rfl
theorem plan68_12 : plan bs0 ((opsOf 12 (code Tryz.f68)).getD #[]) = some (.lt 0 (.lt 1 (.lt 2 (.lt 3 (.lt 4 (.lt 5 (.lt 6 (.hv 7 [] (.lt 8 (.lt 9 (.lt 10 (.lt 12 (.lt 13 (.hv 11 [13, 12] (.lt 14 (.lt 15 (.lt 16 (.fin)))) (.no))))))) (.no))))))))) := by kernel_rfl
theorem plan83_6 : plan bs0 ((opsOf 6 (code Tryz.f83)).getD #[]) = some (.lt 0 (.lt 1 (.lt 2 (.lt 3 (.lt 4 (.lt 5 (.lt 6 (.lt 7 (.hv 8 [4, 3, 2] (.lt 9 (.lt 10 (.lt 11 (.fin)))) (.no)))))))))) := by kernel_rfl
theorem plan83_12 : plan bs0 ((opsOf 12 (code Tryz.f83)).getD #[]) = some (.lt 0 (.lt 1 (.hv 2 [] (.lt 3 (.lt 4 (.lt 5 (.lt 6 (.hv 7 [] (.lt 8 (.lt 9 (.lt 10 (.lt 11 (.lt 12 (.hv 13 [] (.lt 14 (.lt 15 (.lt 16 (.lt 17 (.lt 18 (.lt 19 (.lt 20 (.lt 21 (.lt 22 (.lt 23 (.lt 24 (.lt 25 (.lt 26 (.lt 27 (.lt 28 (.lt 29 (.lt 30 (.lt 31 (.lt 32 (.lt 33 (.lt 34 (.lt 35 (.lt 36 (.lt 37 (.lt 38 (.lt 39 (.lt 40 (.lt 41 (.lt 42 (.lt 43 (.lt 44 (.lt 45 (.fin))))))))))))))))))))))))))))))))) (.no))))))) (.no)))))) (.no)))) := by kernel_rfl
theorem plan85_5 : plan bs0 ((opsOf 5 (code Tryz.f85)).getD #[]) = some (.lt 0 (.lt 1 (.lt 2 (.lt 3 (.lt 4 (.lt 5 (.hv 6 [] (.lt 7 (.fin)) (.no)))))))) := by kernel_rfl
theorem plan86_1 : plan bs0 ((opsOf 1 (code Tryz.f86)).getD #[]) = some (.lt 0 (.lt 1 (.lt 2 (.lt 3 (.lt 5 (.lt 6 (.lt 8 (.lt 9 (.hv 4 [9, 8, 6, 5, 3, 2, 1, 0] (.hv 7 [9, 8, 3, 2, 1, 0] (.lt 10 (.hv 11 [10, 9, 8, 6, 5, 3, 2, 1, 0] (.hv 12 [] (.fin) (.no)) (.no))) (.hv 11 [9, 8, 6, 5, 3, 2, 1, 0] (.hv 7 [9, 8, 3, 2, 1, 0] (.lt 10 (.hv 12 [] (.fin) (.no))) (.no)) (.no))) (.hv 11 [9, 8, 6, 5, 3, 2, 1, 0] (.hv 4 [9, 8, 6, 5, 3, 2, 1, 0] (.hv 7 [9, 8, 3, 2, 1, 0] (.lt 10 (.hv 12 [] (.fin) (.no))) (.no)) (.no)) (.no))))))))))) := by kernel_rfl
theorem plan86_5 : plan bs0 ((opsOf 5 (code Tryz.f86)).getD #[]) = some (.lt 0 (.lt 1 (.lt 2 (.lt 3 (.lt 4 (.lt 5 (.lt 6 (.hv 7 [1, 0] (.hv 8 [1, 0] (.hv 9 [] (.lt 10 (.hv 11 [] (.fin) (.no))) (.no)) (.no)) (.no))))))))) := by kernel_rfl
theorem plan87_4 : plan bs0 ((opsOf 4 (code Tryz.f87)).getD #[]) = some (.lt 0 (.hv 1 [] (.lt 2 (.lt 3 (.lt 4 (.lt 5 (.lt 6 (.lt 7 (.lt 8 (.hv 9 [] (.lt 10 (.lt 11 (.fin))) (.no))))))))) (.no))) := by kernel_rfl
theorem plan87_6 : plan bs0 ((opsOf 6 (code Tryz.f87)).getD #[]) = some (.lt 0 (.lt 1 (.lt 2 (.lt 3 (.hv 4 [] (.fin) (.no)))))) := by kernel_rfl
theorem plan87_7 : plan bs0 ((opsOf 7 (code Tryz.f87)).getD #[]) = some (.lt 0 (.lt 2 (.lt 3 (.lt 4 (.lt 5 (.lt 6 (.lt 8 (.hv 1 [8, 6, 5, 4, 3, 2, 0] (.hv 7 [8, 0] (.hv 9 [6, 5, 4, 3, 2, 0] (.hv 10 [0] (.lt 11 (.lt 12 (.lt 13 (.hv 14 [] (.fin) (.no))))) (.no)) (.no)) (.hv 9 [6, 5, 4, 3, 2, 0] (.hv 7 [8, 0] (.hv 10 [0] (.lt 11 (.lt 12 (.lt 13 (.hv 14 [] (.fin) (.no))))) (.no)) (.no)) (.no))) (.hv 9 [6, 5, 4, 3, 2, 0] (.hv 1 [8, 6, 5, 4, 3, 2, 0] (.hv 7 [8, 0] (.hv 10 [0] (.lt 11 (.lt 12 (.lt 13 (.hv 14 [] (.fin) (.no))))) (.no)) (.no)) (.no)) (.no)))))))))) := by kernel_rfl
theorem plan88_1 : plan bs0 ((opsOf 1 (code Tryz.f88)).getD #[]) = some (.lt 0 (.lt 1 (.lt 3 (.lt 4 (.lt 6 (.lt 7 (.lt 8 (.lt 9 (.lt 11 (.lt 12 (.hv 2 [12, 11, 9, 8, 7, 6, 4, 3, 1, 0] (.hv 5 [12, 11, 9, 8, 7, 6, 1, 0] (.hv 10 [12, 11, 7, 6, 1, 0] (.hv 13 [7, 6, 1, 0] (.lt 14 (.hv 15 [] (.fin) (.no))) (.no)) (.no)) (.no)) (.no)))))))))))) := by kernel_rfl
theorem plan91_9 : plan bs0 ((opsOf 9 (code Tryz.f91)).getD #[]) = some (.lt 0 (.lt 1 (.lt 2 (.lt 3 (.lt 4 (.hv 5 [] (.lt 6 (.lt 7 (.lt 8 (.hv 9 [8, 7, 6, 4, 3, 2, 1, 0] (.hv 10 [8] (.lt 11 (.fin)) (.no)) (.no))))) (.hv 9 [4, 3, 2, 1, 0] (.hv 5 [] (.lt 6 (.lt 7 (.lt 8 (.hv 10 [8] (.lt 11 (.fin)) (.no))))) (.no)) (.no)))))))) := by kernel_rfl
theorem plan92_1 : plan bs0 ((opsOf 1 (code Tryz.f92)).getD #[]) = some (.lt 0 (.lt 1 (.lt 3 (.lt 4 (.hv 2 [4, 3] (.lt 5 (.hv 6 [5, 4, 3, 1, 0] (.hv 7 [] (.fin) (.no)) (.no))) (.hv 6 [4, 3, 1, 0] (.hv 2 [4, 3] (.lt 5 (.hv 7 [] (.fin) (.no))) (.no)) (.no))))))) := by kernel_rfl
theorem plan92_5 : plan bs0 ((opsOf 5 (code Tryz.f92)).getD #[]) = some (.lt 0 (.lt 1 (.lt 2 (.hv 3 [1, 0] (.hv 4 [1, 0] (.hv 5 [] (.lt 6 (.hv 7 [] (.fin) (.no))) (.no)) (.no)) (.no))))) := by kernel_rfl
theorem plan93_1 : plan bs0 ((opsOf 1 (code Tryz.f93)).getD #[]) = some (.lt 0 (.lt 1 (.lt 2 (.lt 3 (.lt 4 (.lt 5 (.lt 6 (.lt 7 (.lt 8 (.lt 9 (.lt 10 (.lt 11 (.lt 12 (.hv 13 [1, 0] (.lt 14 (.lt 15 (.fin))) (.no))))))))))))))) := by kernel_rfl
theorem plan93_3 : plan bs0 ((opsOf 3 (code Tryz.f93)).getD #[]) = some (.lt 0 (.lt 1 (.lt 2 (.lt 3 (.lt 4 (.lt 5 (.hv 6 [0] (.lt 7 (.lt 8 (.lt 9 (.lt 10 (.lt 11 (.hv 12 [9] (.fin) (.no))))))) (.no)))))))) := by kernel_rfl
theorem plan93_4 : plan bs0 ((opsOf 4 (code Tryz.f93)).getD #[]) = some (.lt 0 (.lt 1 (.lt 2 (.lt 3 (.lt 4 (.lt 5 (.lt 6 (.hv 7 [5, 4, 3, 2, 1, 0] (.hv 8 [5, 4, 3, 2, 1, 0] (.hv 9 [0] (.lt 10 (.lt 11 (.lt 12 (.hv 13 [] (.fin) (.no))))) (.no)) (.no)) (.no))))))))) := by kernel_rfl
theorem plan95_6 : plan bs0 ((opsOf 6 (code Tryz.f95)).getD #[]) = some (.lt 0 (.lt 1 (.lt 2 (.lt 3 (.lt 4 (.lt 5 (.lt 6 (.lt 7 (.hv 8 [] (.lt 9 (.fin)) (.no)))))))))) := by kernel_rfl
theorem plan101_8 : plan bs0 ((opsOf 8 (code Tryz.f101)).getD #[]) = some (.lt 0 (.lt 1 (.lt 2 (.lt 3 (.lt 4 (.fin)))))) := by kernel_rfl
theorem plan101_16 : plan bs0 ((opsOf 16 (code Tryz.f101)).getD #[]) = some (.lt 0 (.lt 1 (.lt 2 (.lt 3 (.lt 4 (.lt 5 (.lt 6 (.fin)))))))) := by kernel_rfl
theorem plan101_24 : plan bs0 ((opsOf 24 (code Tryz.f101)).getD #[]) = some (.lt 0 (.lt 1 (.lt 2 (.lt 3 (.lt 4 (.lt 5 (.lt 6 (.fin)))))))) := by kernel_rfl
theorem plan102_29 : plan bs0 ((opsOf 29 (code Tryz.f102)).getD #[]) = some (.lt 0 (.lt 1 (.lt 2 (.lt 3 (.lt 4 (.lt 5 (.lt 6 (.lt 7 (.lt 8 (.hv 9 [] (.lt 10 (.lt 11 (.lt 12 (.lt 13 (.lt 14 (.lt 15 (.lt 16 (.lt 17 (.lt 18 (.lt 19 (.lt 20 (.lt 21 (.lt 22 (.lt 23 (.lt 24 (.lt 25 (.lt 26 (.lt 27 (.lt 28 (.lt 29 (.lt 30 (.lt 31 (.fin))))))))))))))))))))))) (.no))))))))))) := by kernel_rfl
theorem plan106_3 : plan bs0 ((opsOf 3 (code Tryz.f106)).getD #[]) = some (.lt 0 (.lt 1 (.lt 2 (.lt 3 (.lt 4 (.lt 5 (.lt 6 (.lt 7 (.lt 8 (.lt 9 (.lt 10 (.lt 11 (.fin))))))))))))) := by kernel_rfl
theorem plan112_3 : plan bs0 ((opsOf 3 (code Tryz.f112)).getD #[]) = some (.lt 0 (.lt 1 (.lt 2 (.lt 3 (.lt 4 (.lt 5 (.lt 6 (.lt 7 (.lt 8 (.lt 9 (.lt 10 (.lt 11 (.lt 12 (.lt 13 (.lt 14 (.lt 15 (.lt 16 (.lt 17 (.lt 18 (.fin)))))))))))))))))))) := by kernel_rfl
theorem plan116_6 : plan bs0 ((opsOf 6 (code Tryz.f116)).getD #[]) = some (.lt 0 (.lt 1 (.lt 2 (.lt 3 (.lt 4 (.lt 5 (.lt 6 (.lt 7 (.hv 8 [] (.lt 9 (.fin)) (.no)))))))))) := by kernel_rfl
theorem plan118_4 : plan bs0 ((opsOf 4 (code Tryz.f118)).getD #[]) = some (.lt 0 (.lt 1 (.lt 2 (.lt 3 (.lt 4 (.lt 5 (.lt 6 (.lt 7 (.lt 8 (.lt 9 (.fin))))))))))) := by kernel_rfl
theorem plan120_6 : plan bs0 ((opsOf 6 (code Tryz.f120)).getD #[]) = some (.lt 0 (.lt 1 (.lt 2 (.lt 3 (.hv 4 [] (.lt 5 (.lt 6 (.lt 7 (.lt 8 (.lt 9 (.lt 10 (.lt 11 (.lt 12 (.lt 13 (.lt 14 (.lt 15 (.lt 16 (.lt 17 (.lt 18 (.lt 19 (.lt 20 (.lt 21 (.lt 22 (.lt 23 (.fin)))))))))))))))))))) (.no)))))) := by kernel_rfl
theorem plan123_2 : plan bs0 ((opsOf 2 (code Tryz.f123)).getD #[]) = some (.lt 0 (.lt 1 (.lt 2 (.lt 3 (.lt 4 (.lt 5 (.lt 6 (.hv 7 [] (.lt 8 (.fin)) (.no))))))))) := by kernel_rfl
theorem plan123_10 : plan bs0 ((opsOf 10 (code Tryz.f123)).getD #[]) = some (.lt 0 (.lt 1 (.lt 2 (.lt 3 (.lt 4 (.lt 5 (.lt 6 (.lt 7 (.lt 8 (.lt 9 (.lt 10 (.lt 11 (.lt 12 (.lt 13 (.lt 14 (.lt 15 (.hv 16 [0] (.lt 17 (.lt 18 (.hv 19 [] (.fin) (.no)))) (.no)))))))))))))))))) := by kernel_rfl
theorem plan123_12 : plan bs0 ((opsOf 12 (code Tryz.f123)).getD #[]) = some (.lt 0 (.lt 2 (.lt 3 (.lt 4 (.lt 5 (.lt 6 (.lt 7 (.lt 9 (.lt 10 (.lt 11 (.lt 12 (.lt 13 (.lt 14 (.lt 15 (.hv 1 [15, 14, 13, 12, 11, 10, 9, 7, 6, 5, 4, 3, 2, 0] (.hv 8 [15, 14, 13, 12, 11, 10, 9, 0] (.hv 16 [0] (.lt 17 (.lt 18 (.hv 19 [] (.fin) (.no)))) (.no)) (.no)) (.no)))))))))))))))) := by kernel_rfl
theorem plan123_19 : plan bs0 ((opsOf 19 (code Tryz.f123)).getD #[]) = some (.lt 0 (.lt 1 (.lt 2 (.lt 3 (.lt 4 (.lt 5 (.lt 6 (.lt 7 (.lt 8 (.lt 9 (.lt 10 (.hv 11 [] (.fin) (.no))))))))))))) := by kernel_rfl
theorem plan123_21 : plan bs0 ((opsOf 21 (code Tryz.f123)).getD #[]) = some (.lt 0 (.lt 1 (.lt 2 (.lt 3 (.lt 4 (.lt 5 (.lt 6 (.lt 7 (.lt 8 (.lt 9 (.lt 10 (.lt 11 (.lt 12 (.lt 13 (.lt 14 (.hv 15 [0] (.lt 16 (.lt 17 (.hv 18 [] (.fin) (.no)))) (.no))))))))))))))))) := by kernel_rfl
theorem plan124_1 : plan bs0 ((opsOf 1 (code Tryz.f124)).getD #[]) = some (.lt 1 (.lt 2 (.lt 4 (.lt 5 (.lt 7 (.lt 8 (.lt 10 (.lt 11 (.lt 12 (.lt 13 (.hv 0 [13, 12, 11, 10, 8, 7, 5, 4, 2, 1] (.hv 3 [13, 12, 11, 10, 8, 7, 5, 4] (.hv 6 [13, 12, 11, 10, 8, 7] (.hv 9 [13, 12, 11, 10] (.lt 14 (.hv 15 [] (.fin) (.no))) (.no)) (.no)) (.no)) (.no)))))))))))) := by kernel_rfl
theorem plan126_6 : plan bs0 ((opsOf 6 (code Tryz.f126)).getD #[]) = some (.lt 0 (.lt 1 (.hv 2 [] (.lt 3 (.lt 4 (.lt 5 (.lt 6 (.lt 7 (.lt 8 (.lt 9 (.lt 10 (.lt 11 (.lt 12 (.lt 13 (.lt 14 (.lt 15 (.lt 16 (.hv 17 [] (.lt 18 (.lt 19 (.lt 20 (.lt 21 (.lt 22 (.lt 23 (.hv 24 [10, 8] (.lt 25 (.lt 26 (.lt 27 (.lt 28 (.lt 29 (.hv 30 [12, 11, 10, 9, 8, 5, 1, 0] (.lt 31 (.lt 32 (.lt 33 (.lt 34 (.lt 35 (.lt 36 (.lt 37 (.hv 38 [19, 18, 16, 15, 14, 13, 12, 11, 10, 9, 8, 7, 6, 5, 4, 3, 1, 0] (.lt 39 (.lt 40 (.fin))) (.no))))))))) (.no))))))) (.no)))))))) (.no)))))))))))))))) (.no)))) := by kernel_rfl
theorem plan126_11 : plan bs0 ((opsOf 11 (code Tryz.f126)).getD #[]) = some (.lt 0 (.lt 1 (.lt 2 (.hv 3 [] (.lt 4 (.lt 5 (.lt 6 (.lt 7 (.lt 8 (.fin)))))) (.no))))) := by kernel_rfl
theorem plan127_1 : plan bs0 ((opsOf 1 (code Tryz.f127)).getD #[]) = some (.lt 0 (.lt 1 (.lt 2 (.lt 3 (.lt 4 (.lt 5 (.lt 7 (.lt 8 (.hv 6 [8, 7, 3, 2, 1, 0] (.lt 9 (.hv 10 [9, 8, 7, 5, 4, 3, 2, 1, 0] (.hv 11 [] (.fin) (.no)) (.no))) (.hv 10 [8, 7, 5, 4, 3, 2, 1, 0] (.hv 6 [8, 7, 3, 2, 1, 0] (.lt 9 (.hv 11 [] (.fin) (.no))) (.no)) (.no))))))))))) := by kernel_rfl
theorem plan127_5 : plan bs0 ((opsOf 5 (code Tryz.f127)).getD #[]) = some (.lt 0 (.lt 1 (.lt 2 (.hv 3 [1, 0] (.hv 4 [1, 0] (.hv 5 [] (.lt 6 (.hv 7 [] (.fin) (.no))) (.no)) (.no)) (.no))))) := by kernel_rfl
theorem plan129_5 : plan bs0 ((opsOf 5 (code Tryz.f129)).getD #[]) = some (.lt 0 (.lt 1 (.lt 2 (.hv 3 [] (.lt 4 (.lt 5 (.lt 6 (.lt 7 (.lt 8 (.fin)))))) (.no))))) := by kernel_rfl
theorem plan129_15 : plan bs0 ((opsOf 15 (code Tryz.f129)).getD #[]) = some (.lt 0 (.lt 1 (.lt 3 (.lt 4 (.lt 6 (.lt 7 (.lt 9 (.lt 10 (.hv 2 [10, 9, 7, 6, 4, 3] (.hv 5 [10, 9, 7, 6] (.hv 8 [10, 9] (.lt 11 (.hv 12 [11, 10, 9, 7, 6, 4, 3, 1, 0] (.hv 13 [] (.fin) (.no)) (.no))) (.hv 12 [10, 9, 7, 6, 4, 3, 1, 0] (.hv 8 [10, 9] (.lt 11 (.hv 13 [] (.fin) (.no))) (.no)) (.no))) (.hv 12 [10, 9, 7, 6, 4, 3, 1, 0] (.hv 5 [10, 9, 7, 6] (.hv 8 [10, 9] (.lt 11 (.hv 13 [] (.fin) (.no))) (.no)) (.no)) (.no))) (.hv 12 [10, 9, 7, 6, 4, 3, 1, 0] (.hv 2 [10, 9, 7, 6, 4, 3] (.hv 5 [10, 9, 7, 6] (.hv 8 [10, 9] (.lt 11 (.hv 13 [] (.fin) (.no))) (.no)) (.no)) (.no)) (.no))))))))))) := by kernel_rfl
theorem plan130_1 : plan bs0 ((opsOf 1 (code Tryz.f130)).getD #[]) = some (.lt 0 (.lt 1 (.lt 2 (.lt 3 (.lt 5 (.lt 6 (.lt 7 (.lt 8 (.lt 10 (.lt 11 (.hv 4 [11, 10, 8, 7, 6, 5, 1, 0] (.hv 9 [11, 10, 6, 5, 1, 0] (.hv 12 [6, 5, 1, 0] (.lt 13 (.hv 14 [] (.fin) (.no))) (.no)) (.no)) (.no)))))))))))) := by kernel_rfl
theorem plan131_1 : plan bs0 ((opsOf 1 (code Tryz.f131)).getD #[]) = some (.lt 0 (.lt 1 (.lt 2 (.hv 3 [] (.lt 4 (.lt 5 (.lt 6 (.lt 7 (.lt 8 (.fin)))))) (.no))))) := by kernel_rfl
theorem plan149_6 : plan bs0 ((opsOf 6 (code Tryz.f149)).getD #[]) = some (.lt 0 (.lt 1 (.lt 2 (.lt 3 (.lt 4 (.lt 5 (.lt 6 (.lt 7 (.hv 8 [] (.lt 9 (.fin)) (.no)))))))))) := by kernel_rfl
theorem plan151_11 : plan bs0 ((opsOf 11 (code Tryz.f151)).getD #[]) = some (.lt 0 (.lt 1 (.lt 2 (.lt 3 (.lt 4 (.lt 5 (.lt 6 (.lt 7 (.lt 8 (.lt 9 (.hv 10 [] (.lt 11 (.fin)) (.no)))))))))))) := by kernel_rfl
theorem plan151_14 : plan bs0 ((opsOf 14 (code Tryz.f151)).getD #[]) = some (.lt 0 (.lt 1 (.lt 2 (.lt 3 (.lt 4 (.lt 5 (.lt 6 (.lt 7 (.lt 8 (.lt 9 (.hv 10 [] (.lt 11 (.fin)) (.no)))))))))))) := by kernel_rfl
theorem plan152_6 : plan bs0 ((opsOf 6 (code Tryz.f152)).getD #[]) = some (.lt 0 (.lt 1 (.lt 2 (.lt 3 (.lt 4 (.lt 5 (.lt 6 (.hv 7 [] (.lt 8 (.fin)) (.no))))))))) := by kernel_rfl
theorem plan156_1 : plan bs0 ((opsOf 1 (code Tryz.f156)).getD #[]) = some (.lt 0 (.lt 1 (.lt 3 (.lt 4 (.lt 6 (.lt 7 (.lt 9 (.lt 10 (.lt 11 (.lt 12 (.hv 2 [12, 11, 10, 9, 7, 6, 4, 3] (.hv 5 [12, 11, 10, 9, 7, 6] (.hv 8 [12, 11, 10, 9] (.lt 13 (.hv 14 [] (.fin) (.no))) (.no)) (.no)) (.no)))))))))))) := by kernel_rfl
theorem plan159_5 : plan bs0 ((opsOf 5 (code Tryz.f159)).getD #[]) = some (.lt 0 (.lt 1 (.lt 2 (.lt 3 (.lt 4 (.lt 5 (.hv 6 [] (.lt 7 (.fin)) (.no)))))))) := by kernel_rfl
theorem plan160_1 : plan bs0 ((opsOf 1 (code Tryz.f160)).getD #[]) = some (.lt 0 (.lt 1 (.lt 2 (.lt 3 (.lt 4 (.lt 5 (.lt 6 (.hv 7 [] (.lt 8 (.lt 9 (.lt 10 (.lt 11 (.lt 12 (.fin)))))) (.no))))))))) := by kernel_rfl
theorem plan160_4 : plan bs0 ((opsOf 4 (code Tryz.f160)).getD #[]) = some (.lt 0 (.lt 1 (.lt 2 (.lt 3 (.lt 4 (.lt 5 (.lt 6 (.lt 7 (.lt 8 (.lt 9 (.lt 11 (.hv 10 [11, 5, 4, 3, 2, 1, 0] (.lt 12 (.hv 13 [5, 4, 3, 2, 1, 0] (.hv 14 [0] (.lt 15 (.lt 16 (.hv 17 [] (.fin) (.no)))) (.no)) (.no))) (.no))))))))))))) := by kernel_rfl
theorem plan160_6 : plan bs0 ((opsOf 6 (code Tryz.f160)).getD #[]) = some (.lt 0 (.lt 1 (.lt 2 (.lt 3 (.lt 4 (.lt 5 (.lt 6 (.lt 7 (.lt 8 (.lt 9 (.lt 10 (.hv 11 [] (.fin) (.no))))))))))))) := by kernel_rfl
theorem plan177_2 : plan bs0 ((opsOf 2 (code Tryz.f177)).getD #[]) = some (.lt 0 (.lt 1 (.lt 2 (.fin)))) := by kernel_rfl
theorem plan177_8 : plan bs0 ((opsOf 8 (code Tryz.f177)).getD #[]) = some (.lt 0 (.lt 1 (.lt 2 (.lt 3 (.lt 4 (.lt 5 (.lt 6 (.lt 7 (.lt 8 (.lt 9 (.lt 10 (.hv 11 [0] (.lt 12 (.lt 13 (.lt 14 (.lt 15 (.fin))))) (.no))))))))))))) := by kernel_rfl
theorem gl8 : globs Tryz.f8 = [0, 4, 11, 3, 2] := by kernel_rfl
theorem gl11 : globs Tryz.f11 = [1, 0, 10, 5, 14, 25, 4] := by kernel_rfl
theorem gl13 : globs Tryz.f13 = [0, 5, 9, 1, 4] := by kernel_rfl
theorem gl22 : globs Tryz.f22 = [0, 1, 11, 5, 15, 25, 4] := by kernel_rfl
theorem gl35 : globs Tryz.f35 = [0, 1, 20, 19, 21, 18, 3, 5, 2] := by kernel_rfl
theorem gl36 : globs Tryz.f36 = [0, 9, 8, 10, 7, 5, 3, 2] := by kernel_rfl
theorem gl41 : globs Tryz.f41 = [0, 1, 11, 5, 15, 25, 4] := by kernel_rfl
theorem gl42 : globs Tryz.f42 = [0, 1, 28, 3, 33, 42, 5, 2] := by kernel_rfl
theorem gl45 : globs Tryz.f45 = [0, 1, 4, 15, 3, 2] := by kernel_rfl
theorem gl47 : globs Tryz.f47 = [0, 4, 11, 3, 2] := by kernel_rfl
theorem gl52 : globs Tryz.f52 = [1, 0, 10, 5, 14, 26, 4] := by kernel_rfl
theorem gl54 : globs Tryz.f54 = [0, 5, 9, 1, 4] := by kernel_rfl
theorem gl56 : globs Tryz.f56 = [0, 5, 9, 1, 18, 29, 36, 46, 56, 68, 78, 88, 97, 4] := by kernel_rfl
theorem gl63 : globs Tryz.f63 = [0, 1, 4, 19, 3, 5, 38, 2] := by kernel_rfl
theorem gl64 : globs Tryz.f64 = [0, 4, 8, 3, 2] := by kernel_rfl
theorem gl75 : globs Tryz.f75 = [0, 5, 9, 1, 4] := by kernel_rfl
theorem gl76 : globs Tryz.f76 = [0, 5, 9, 1, 4] := by kernel_rfl
theorem gl77 : globs Tryz.f77 = [0, 5, 9, 1, 18, 4] := by kernel_rfl
theorem gl78 : globs Tryz.f78 = [0, 5, 9, 1, 19, 4] := by kernel_rfl
theorem gl79 : globs Tryz.f79 = [0, 5, 9, 1, 18, 27, 38, 47, 56, 4] := by kernel_rfl
theorem gl81 : globs Tryz.f81 = [0, 1, 11, 5, 15, 25, 4] := by kernel_rfl
theorem gl83 : globs Tryz.f83 = [0, 1, 19, 3, 54, 66, 4, 71, 5, 124, 2] := by kernel_rfl
theorem gl85 : globs Tryz.f85 = [0, 2, 1, 7, 12, 6, 22, 4, 5] := by kernel_rfl
theorem gl86 : globs Tryz.f86 = [0, 1, 4, 20, 3, 2] := by kernel_rfl
theorem gl89 : globs Tryz.f89 = [0, 4, 11, 3, 2] := by kernel_rfl
theorem gl91 : globs Tryz.f91 = [0, 1, 27, 35, 34, 36, 33, 6, 42, 5, 4, 8, 53, 7, 2, 3] := by kernel_rfl
theorem gl92 : globs Tryz.f92 = [0, 1, 15, 14, 16, 13, 3, 5, 2] := by kernel_rfl
theorem gl95 : globs Tryz.f95 = [1, 0, 10, 5, 14, 26, 4] := by kernel_rfl
theorem gl97 : globs Tryz.f97 = [0, 5, 9, 1, 4] := by kernel_rfl
theorem gl98 : globs Tryz.f98 = [0, 5, 9, 1, 20, 28, 38, 50, 60, 70, 79, 88, 97, 4] := by kernel_rfl
theorem gl100 : globs Tryz.f100 = [0, 1, 11, 5, 15, 25, 4] := by kernel_rfl
theorem gl101 : globs Tryz.f101 = [5, 0, 20, 27, 6, 33, 7, 47, 8, 55, 76, 94, 9, 98, 112, 2, 3, 4] := by kernel_rfl
theorem gl102 : globs Tryz.f102 = [0, 2, 1, 15, 3, 66, 68, 69, 73, 82, 84, 89, 91, 96, 98, 112, 7, 117, 151, 162, 6] := by kernel_rfl
theorem gl105 : globs Tryz.f105 = [0, 4, 11, 3, 2] := by kernel_rfl
theorem gl107 : globs Tryz.f107 = [0, 7, 6, 8, 5, 4, 16, 2] := by kernel_rfl
theorem gl112 : globs Tryz.f112 = [1, 0, 3, 12, 2, 29, 30, 8, 7, 6, 5, 43, 57, 71, 85, 88, 89, 97, 101, 100, 102, 99, 10, 9, 123, 4] := by kernel_rfl
theorem gl113 : globs Tryz.f113 = [0, 1, 9, 8, 10, 7, 5, 3, 2] := by kernel_rfl
theorem gl116 : globs Tryz.f116 = [1, 0, 10, 5, 14, 26, 4] := by kernel_rfl
theorem gl118 : globs Tryz.f118 = [0, 2, 5, 10, 1, 22, 4] := by kernel_rfl
theorem gl120 : globs Tryz.f120 = [0, 6, 3, 10, 36, 2] := by kernel_rfl
theorem gl126 : globs Tryz.f126 = [0, 1, 16, 20, 19, 21, 18, 4, 3, 65, 70, 6, 2] := by kernel_rfl
theorem gl127 : globs Tryz.f127 = [0, 1, 19, 18, 20, 17, 3, 5, 2] := by kernel_rfl
theorem gl133 : globs Tryz.f133 = [0, 1, 11, 5, 15, 25, 4] := by kernel_rfl
theorem gl134 : globs Tryz.f134 = [0, 11, 3, 15, 29, 2] := by kernel_rfl
theorem gl136 : globs Tryz.f136 = [0, 6, 3, 10, 24, 2] := by kernel_rfl
theorem gl137 : globs Tryz.f137 = [0, 4, 11, 3, 2] := by kernel_rfl
theorem gl138 : globs Tryz.f138 = [1, 5, 22, 25, 0, 33, 40, 41, 46, 52, 9, 8, 69, 6, 75, 11, 84, 7, 105, 10, 114, 12, 121, 17, 15, 138, 13, 144, 18, 153, 14, 174, 16, 189, 19, 196, 4] := by kernel_rfl
theorem gl144 : globs Tryz.f144 = [0, 7, 6, 8, 5, 4, 16, 2] := by kernel_rfl
theorem gl149 : globs Tryz.f149 = [1, 0, 10, 5, 14, 26, 4] := by kernel_rfl
theorem gl150 : globs Tryz.f150 = [0, 1, 6, 3, 11, 20, 2] := by kernel_rfl
theorem gl151 : globs Tryz.f151 = [1, 0, 3, 2, 12, 20, 30, 5, 47, 52, 6, 65, 7, 79, 4] := by kernel_rfl
theorem gl152 : globs Tryz.f152 = [1, 0, 7, 12, 3, 8, 6, 28, 5, 34, 43, 4] := by kernel_rfl
theorem gl154 : globs Tryz.f154 = [0, 7, 6, 8, 5, 4, 3, 28, 2] := by kernel_rfl
theorem gl172 : globs Tryz.f172 = [0, 8, 7, 9, 5, 1, 16, 4] := by kernel_rfl
theorem gl177 : globs Tryz.f177 = [0, 8, 10, 9, 17, 1, 11, 2, 31, 6, 7] := by kernel_rfl
theorem funcs_all {f : Func → Bool} (h : Tryz.prog.funcs.all f = true) {i : Nat} {fn : Func} (hi : Tryz.prog.funcs[i]? = some fn) : f fn = true := Array.all_eq_true_iff_forall_mem.1 h fn (Array.mem_of_getElem? hi)
instance ddS : Dd := ⟨False⟩
theorem hasBody {fn : Func} (h : fn.body.isSome = true) : fn.body = some (code fn) := by
 unfold code
 cases hb : fn.body with
 | none => rw [hb] at h; cases h
 | some c => rfl
theorem call0 {g : FuncId} {gn : Func} {ts : List TV} {hp : Hp} {r : Option Res} (hg : Tryz.prog.funcs[g]? = some gn) (hb : gn.body.isSome = true) (h : lim C0 g gn [.c (code gn)] ⟨number ts 0, hp⟩ = r) (hx : isExt g = false := by rfl) : phi C0 (lim C0) g ts hp = r :=
 (phi_at (C := C0) (c := code gn) (ext0_none hx ts hp) hg (hasBody hb)).trans h
end Go.Proofs.YtgbfmdihmnpcdaaGreatDoor
