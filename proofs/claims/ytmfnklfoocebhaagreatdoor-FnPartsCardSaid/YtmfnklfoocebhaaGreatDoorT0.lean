/- Closed facts of this seat's program for the pure machine: its table of types, the orders of the drawn regions, what is asked of it. -/
import Derived.Test.YtmfnklfoocebhaaGreatDoorPm4
import Derived.Test.YtmfnklfoocebhaaGreatDoorChecked
namespace Go.Proofs.YtmfnklfoocebhaaGreatDoor
open Go Go.Pm Go.Proofs
set_option linter.unusedVariables false
set_option linter.unusedSimpArgs false
def tab : List (Nat × TI) := [
  (1, ⟨1, 8, .other, .pv false (.sc .nilFunc)⟩),
  (2, ⟨1, 8, .int .i64, .pv false (.sc (.int .i64 0))⟩),
  (3, ⟨1, 8, .int .i64, .pv false (.sc (.int .i64 0))⟩),
  (4, ⟨1, 1, .bool, .pv false (.sc (.bool false))⟩),
  (5, ⟨1, 1, .int .u8, .pv false (.sc (.int .u8 0))⟩),
  (6, ⟨1, 1, .int .u8, .pv false (.sc (.int .u8 0))⟩),
  (7, ⟨4, 24, .struct [(0, 2), (1, 3), (2, 4), (3, 6)], .ag [.pv false (.sc (.int .i64 0)), .pv false (.sc (.int .i64 0)), .pv false (.sc (.bool false)), .pv false (.sc (.int .u8 0))]⟩),
  (8, ⟨4, 24, .struct [(0, 2), (1, 3), (2, 4), (3, 6)], .ag [.pv false (.sc (.int .i64 0)), .pv false (.sc (.int .i64 0)), .pv false (.sc (.bool false)), .pv false (.sc (.int .u8 0))]⟩),
  (9, ⟨1, 16, .str, .pv false (.sc (.string ⟨#[]⟩))⟩),
  (10, ⟨1, 16, .str, .pv false (.sc (.string ⟨#[]⟩))⟩),
  (11, ⟨1, 16, .str, .pv false (.sc (.string ⟨#[]⟩))⟩),
  (12, ⟨1, 8, .int .u64, .pv false (.sc (.int .u64 0))⟩),
  (13, ⟨2, 24, .struct [(0, 9), (1, 12)], .ag [.pv false (.sc (.string ⟨#[]⟩)), .pv false (.sc (.int .u64 0))]⟩),
  (14, ⟨2, 24, .struct [(0, 9), (1, 12)], .ag [.pv false (.sc (.string ⟨#[]⟩)), .pv false (.sc (.int .u64 0))]⟩),
  (15, ⟨1, 8, .ptr 314, .pv false (.sc (.pointer none))⟩),
  (16, ⟨1, 8, .ptr 317, .pv false (.sc (.pointer none))⟩),
  (17, ⟨1, 8, .ptr 324, .pv false (.sc (.pointer none))⟩),
  (18, ⟨1, 8, .struct [(0, 17)], .ag [.pv false (.sc (.pointer none))]⟩),
  (19, ⟨1, 8, .struct [(0, 17)], .ag [.pv false (.sc (.pointer none))]⟩),
  (20, ⟨1, 16, .ifc, .pv false (.sc .nilIface)⟩),
  (21, ⟨1, 4, .int .i32, .pv false (.sc (.int .i32 0))⟩),
  (22, ⟨1, 24, .slice 5, .nl⟩),
  (23, ⟨1, 24, .slice 37, .nl⟩),
  (24, ⟨2, 32, .struct [(0, 3), (1, 23)], .ag [.pv false (.sc (.int .i64 0)), .nl]⟩),
  (25, ⟨2, 32, .struct [(0, 3), (1, 23)], .ag [.pv false (.sc (.int .i64 0)), .nl]⟩),
  (26, ⟨1, 24, .slice 3, .nl⟩),
  (28, ⟨1, 8, .other, .pv false (.sc .nilFunc)⟩),
  (30, ⟨1, 8, .other, .pv false (.sc .nilFunc)⟩),
  (31, ⟨1, 8, .other, .pv false (.sc .nilFunc)⟩),
  (33, ⟨1, 8, .other, .pv false (.sc .nilFunc)⟩),
  (34, ⟨1, 8, .other, .pv false (.sc .nilFunc)⟩),
  (35, ⟨1, 8, .other, .pv false (.sc .nilFunc)⟩),
  (36, ⟨2, 16, .struct [(0, 3), (1, 3)], .ag [.pv false (.sc (.int .i64 0)), .pv false (.sc (.int .i64 0))]⟩),
  (37, ⟨2, 16, .struct [(0, 3), (1, 3)], .ag [.pv false (.sc (.int .i64 0)), .pv false (.sc (.int .i64 0))]⟩),
  (38, ⟨1, 8, .other, .pv false (.sc .nilFunc)⟩),
  (39, ⟨1, 24, .slice 56, .nl⟩),
  (40, ⟨5, 72, .struct [(0, 3), (1, 4), (2, 22), (3, 3), (4, 39)], .ag [.pv false (.sc (.int .i64 0)), .pv false (.sc (.bool false)), .nl, .pv false (.sc (.int .i64 0)), .nl]⟩),
  (41, ⟨5, 72, .struct [(0, 3), (1, 4), (2, 22), (3, 3), (4, 39)], .ag [.pv false (.sc (.int .i64 0)), .pv false (.sc (.bool false)), .nl, .pv false (.sc (.int .i64 0)), .nl]⟩),
  (42, ⟨1, 24, .slice 81, .nl⟩),
  (43, ⟨7, 104, .struct [(0, 41), (5, 42), (6, 3)], .ag [.pv false (.sc (.int .i64 0)), .pv false (.sc (.bool false)), .nl, .pv false (.sc (.int .i64 0)), .nl, .nl, .pv false (.sc (.int .i64 0))]⟩),
  (44, ⟨7, 104, .struct [(0, 41), (5, 42), (6, 3)], .ag [.pv false (.sc (.int .i64 0)), .pv false (.sc (.bool false)), .nl, .pv false (.sc (.int .i64 0)), .nl, .nl, .pv false (.sc (.int .i64 0))]⟩),
  (46, ⟨1, 8, .other, .pv false (.sc .nilFunc)⟩),
  (47, ⟨1, 24, .slice 111, .nl⟩),
  (48, ⟨1, 8, .other, .pv false (.sc .nilFunc)⟩),
  (50, ⟨1, 8, .other, .pv false (.sc .nilFunc)⟩),
  (51, ⟨1, 24, .slice 22, .nl⟩),
  (52, ⟨1, 24, .slice 54, .nl⟩),
  (53, ⟨5, 88, .struct [(0, 3), (1, 3), (2, 22), (3, 51), (4, 52)], .ag [.pv false (.sc (.int .i64 0)), .pv false (.sc (.int .i64 0)), .nl, .nl, .nl]⟩),
  (54, ⟨5, 88, .struct [(0, 3), (1, 3), (2, 22), (3, 51), (4, 52)], .ag [.pv false (.sc (.int .i64 0)), .pv false (.sc (.int .i64 0)), .nl, .nl, .nl]⟩),
  (55, ⟨9, 152, .struct [(0, 22), (1, 54), (6, 51), (7, 4), (8, 3)], .ag [.nl, .pv false (.sc (.int .i64 0)), .pv false (.sc (.int .i64 0)), .nl, .nl, .nl, .nl, .pv false (.sc (.bool false)), .pv false (.sc (.int .i64 0))]⟩),
  (56, ⟨9, 152, .struct [(0, 22), (1, 54), (6, 51), (7, 4), (8, 3)], .ag [.nl, .pv false (.sc (.int .i64 0)), .pv false (.sc (.int .i64 0)), .nl, .nl, .nl, .nl, .pv false (.sc (.bool false)), .pv false (.sc (.int .i64 0))]⟩),
  (57, ⟨1, 8, .ptr 102, .pv false (.sc (.pointer none))⟩),
  (58, ⟨1, 8, .other, .pv false (.sc .nilFunc)⟩),
  (59, ⟨1, 8, .other, .pv false (.sc .nilFunc)⟩),
  (60, ⟨1, 8, .other, .pv false (.sc .nilFunc)⟩),
  (61, ⟨1, 8, .other, .pv false (.sc .nilFunc)⟩),
  (62, ⟨1, 8, .other, .pv false (.sc .nilFunc)⟩),
  (63, ⟨1, 8, .other, .pv false (.sc .nilFunc)⟩),
  (64, ⟨1, 8, .other, .pv false (.sc .nilFunc)⟩),
  (65, ⟨1, 8, .other, .pv false (.sc .nilFunc)⟩),
  (66, ⟨1, 8, .other, .pv false (.sc .nilFunc)⟩),
  (67, ⟨1, 8, .other, .pv false (.sc .nilFunc)⟩),
  (68, ⟨1, 8, .ptr 78, .pv false (.sc (.pointer none))⟩),
  (69, ⟨1, 8, .other, .pv false (.sc .nilFunc)⟩),
  (70, ⟨1, 24, .slice 83, .nl⟩),
  (71, ⟨1, 24, .slice 86, .nl⟩),
  (72, ⟨9, 168, .struct [(0, 70), (1, 3), (2, 71), (3, 54), (8, 52)], .ag [.nl, .pv false (.sc (.int .i64 0)), .nl, .pv false (.sc (.int .i64 0)), .pv false (.sc (.int .i64 0)), .nl, .nl, .nl, .nl]⟩),
  (73, ⟨9, 168, .struct [(0, 70), (1, 3), (2, 71), (3, 54), (8, 52)], .ag [.nl, .pv false (.sc (.int .i64 0)), .nl, .pv false (.sc (.int .i64 0)), .pv false (.sc (.int .i64 0)), .nl, .nl, .nl, .nl]⟩),
  (75, ⟨1, 8, .other, .pv false (.sc .nilFunc)⟩),
  (76, ⟨1, 8, .other, .pv false (.sc .nilFunc)⟩),
  (77, ⟨16, 256, .struct [(0, 44), (7, 41), (12, 26), (13, 76), (14, 26), (15, 51)], .ag [.pv false (.sc (.int .i64 0)), .pv false (.sc (.bool false)), .nl, .pv false (.sc (.int .i64 0)), .nl, .nl, .pv false (.sc (.int .i64 0)), .pv false (.sc (.int .i64 0)), .pv false (.sc (.bool false)), .nl, .pv false (.sc (.int .i64 0)), .nl, .nl, .pv false (.sc .nilFunc), .nl, .nl]⟩),
  (78, ⟨16, 256, .struct [(0, 44), (7, 41), (12, 26), (13, 76), (14, 26), (15, 51)], .ag [.pv false (.sc (.int .i64 0)), .pv false (.sc (.bool false)), .nl, .pv false (.sc (.int .i64 0)), .nl, .nl, .pv false (.sc (.int .i64 0)), .pv false (.sc (.int .i64 0)), .pv false (.sc (.bool false)), .nl, .pv false (.sc (.int .i64 0)), .nl, .nl, .pv false (.sc .nilFunc), .nl, .nl]⟩),
  (79, ⟨1, 8, .other, .pv false (.sc .nilFunc)⟩),
  (80, ⟨9, 152, .struct [(0, 3), (1, 22), (2, 3), (3, 54), (8, 51)], .ag [.pv false (.sc (.int .i64 0)), .nl, .pv false (.sc (.int .i64 0)), .pv false (.sc (.int .i64 0)), .pv false (.sc (.int .i64 0)), .nl, .nl, .nl, .nl]⟩),
  (81, ⟨9, 152, .struct [(0, 3), (1, 22), (2, 3), (3, 54), (8, 51)], .ag [.pv false (.sc (.int .i64 0)), .nl, .pv false (.sc (.int .i64 0)), .pv false (.sc (.int .i64 0)), .pv false (.sc (.int .i64 0)), .nl, .nl, .nl, .nl]⟩),
  (82, ⟨9, 152, .struct [(0, 3), (1, 22), (2, 3), (3, 54), (8, 51)], .ag [.pv false (.sc (.int .i64 0)), .nl, .pv false (.sc (.int .i64 0)), .pv false (.sc (.int .i64 0)), .pv false (.sc (.int .i64 0)), .nl, .nl, .nl, .nl]⟩),
  (83, ⟨9, 152, .struct [(0, 3), (1, 22), (2, 3), (3, 54), (8, 51)], .ag [.pv false (.sc (.int .i64 0)), .nl, .pv false (.sc (.int .i64 0)), .pv false (.sc (.int .i64 0)), .pv false (.sc (.int .i64 0)), .nl, .nl, .nl, .nl]⟩),
  (84, ⟨1, 8, .other, .pv false (.sc .nilFunc)⟩),
  (85, ⟨17, 296, .struct [(0, 22), (1, 3), (2, 54), (7, 54), (12, 54)], .ag [.nl, .pv false (.sc (.int .i64 0)), .pv false (.sc (.int .i64 0)), .pv false (.sc (.int .i64 0)), .nl, .nl, .nl, .pv false (.sc (.int .i64 0)), .pv false (.sc (.int .i64 0)), .nl, .nl, .nl, .pv false (.sc (.int .i64 0)), .pv false (.sc (.int .i64 0)), .nl, .nl, .nl]⟩),
  (86, ⟨17, 296, .struct [(0, 22), (1, 3), (2, 54), (7, 54), (12, 54)], .ag [.nl, .pv false (.sc (.int .i64 0)), .pv false (.sc (.int .i64 0)), .pv false (.sc (.int .i64 0)), .nl, .nl, .nl, .pv false (.sc (.int .i64 0)), .pv false (.sc (.int .i64 0)), .nl, .nl, .nl, .pv false (.sc (.int .i64 0)), .pv false (.sc (.int .i64 0)), .nl, .nl, .nl]⟩),
  (87, ⟨1, 8, .other, .pv false (.sc .nilFunc)⟩),
  (88, ⟨1, 8, .other, .pv false (.sc .nilFunc)⟩),
  (90, ⟨1, 8, .other, .pv false (.sc .nilFunc)⟩),
  (91, ⟨1, 8, .other, .pv false (.sc .nilFunc)⟩),
  (92, ⟨1, 8, .other, .pv false (.sc .nilFunc)⟩),
  (94, ⟨1, 8, .other, .pv false (.sc .nilFunc)⟩),
  (95, ⟨1, 24, .slice 41, .nl⟩),
  (97, ⟨1, 8, .other, .pv false (.sc .nilFunc)⟩),
  (98, ⟨20, 20, .arr 20 4, .ar (List.replicate 20 (.sc (.bool false)))⟩),
  (99, ⟨1, 8, .other, .pv false (.sc .nilFunc)⟩),
  (100, ⟨1, 8, .other, .pv false (.sc .nilFunc)⟩),
  (101, ⟨3, 40, .struct [(0, 22), (1, 3), (2, 3)], .ag [.nl, .pv false (.sc (.int .i64 0)), .pv false (.sc (.int .i64 0))]⟩),
  (102, ⟨3, 40, .struct [(0, 22), (1, 3), (2, 3)], .ag [.nl, .pv false (.sc (.int .i64 0)), .pv false (.sc (.int .i64 0))]⟩),
  (103, ⟨1, 8, .other, .pv false (.sc .nilFunc)⟩),
  (104, ⟨1, 8, .other, .pv false (.sc .nilFunc)⟩),
  (105, ⟨1, 8, .other, .pv false (.sc .nilFunc)⟩),
  (106, ⟨1, 8, .other, .pv false (.sc .nilFunc)⟩),
  (107, ⟨1, 24, .slice 109, .nl⟩),
  (108, ⟨5, 88, .struct [(0, 3), (1, 3), (2, 22), (3, 51), (4, 107)], .ag [.pv false (.sc (.int .i64 0)), .pv false (.sc (.int .i64 0)), .nl, .nl, .nl]⟩),
  (109, ⟨5, 88, .struct [(0, 3), (1, 3), (2, 22), (3, 51), (4, 107)], .ag [.pv false (.sc (.int .i64 0)), .pv false (.sc (.int .i64 0)), .nl, .nl, .nl]⟩),
  (110, ⟨10, 176, .struct [(0, 3), (1, 22), (2, 3), (3, 109), (8, 51), (9, 107)], .ag [.pv false (.sc (.int .i64 0)), .nl, .pv false (.sc (.int .i64 0)), .pv false (.sc (.int .i64 0)), .pv false (.sc (.int .i64 0)), .nl, .nl, .nl, .nl, .nl]⟩),
  (111, ⟨10, 176, .struct [(0, 3), (1, 22), (2, 3), (3, 109), (8, 51), (9, 107)], .ag [.pv false (.sc (.int .i64 0)), .nl, .pv false (.sc (.int .i64 0)), .pv false (.sc (.int .i64 0)), .pv false (.sc (.int .i64 0)), .nl, .nl, .nl, .nl, .nl]⟩),
  (112, ⟨1, 8, .other, .pv false (.sc .nilFunc)⟩),
  (113, ⟨1, 8, .other, .pv false (.sc .nilFunc)⟩),
  (114, ⟨1, 8, .other, .pv false (.sc .nilFunc)⟩),
  (115, ⟨1, 8, .other, .pv false (.sc .nilFunc)⟩),
  (116, ⟨1, 8, .other, .pv false (.sc .nilFunc)⟩),
  (117, ⟨1, 8, .other, .pv false (.sc .nilFunc)⟩),
  (118, ⟨1, 8, .other, .pv false (.sc .nilFunc)⟩),
  (120, ⟨1, 8, .other, .pv false (.sc .nilFunc)⟩),
  (121, ⟨1, 8, .other, .pv false (.sc .nilFunc)⟩),
  (122, ⟨1, 8, .other, .pv false (.sc .nilFunc)⟩),
  (123, ⟨1, 8, .other, .pv false (.sc .nilFunc)⟩),
  (124, ⟨1, 8, .other, .pv false (.sc .nilFunc)⟩),
  (126, ⟨1, 8, .other, .pv false (.sc .nilFunc)⟩),
  (127, ⟨1, 8, .other, .pv false (.sc .nilFunc)⟩),
  (128, ⟨1, 8, .other, .pv false (.sc .nilFunc)⟩),
  (129, ⟨1, 8, .other, .pv false (.sc .nilFunc)⟩),
  (130, ⟨1, 8, .other, .pv false (.sc .nilFunc)⟩),
  (131, ⟨1, 8, .other, .pv false (.sc .nilFunc)⟩),
  (132, ⟨25, 440, .struct [(0, 54), (5, 54), (10, 54), (15, 54), (20, 54)], .ag [.pv false (.sc (.int .i64 0)), .pv false (.sc (.int .i64 0)), .nl, .nl, .nl, .pv false (.sc (.int .i64 0)), .pv false (.sc (.int .i64 0)), .nl, .nl, .nl, .pv false (.sc (.int .i64 0)), .pv false (.sc (.int .i64 0)), .nl, .nl, .nl, .pv false (.sc (.int .i64 0)), .pv false (.sc (.int .i64 0)), .nl, .nl, .nl, .pv false (.sc (.int .i64 0)), .pv false (.sc (.int .i64 0)), .nl, .nl, .nl]⟩),
  (133, ⟨25, 440, .struct [(0, 54), (5, 54), (10, 54), (15, 54), (20, 54)], .ag [.pv false (.sc (.int .i64 0)), .pv false (.sc (.int .i64 0)), .nl, .nl, .nl, .pv false (.sc (.int .i64 0)), .pv false (.sc (.int .i64 0)), .nl, .nl, .nl, .pv false (.sc (.int .i64 0)), .pv false (.sc (.int .i64 0)), .nl, .nl, .nl, .pv false (.sc (.int .i64 0)), .pv false (.sc (.int .i64 0)), .nl, .nl, .nl, .pv false (.sc (.int .i64 0)), .pv false (.sc (.int .i64 0)), .nl, .nl, .nl]⟩),
  (134, ⟨1, 8, .other, .pv false (.sc .nilFunc)⟩),
  (135, ⟨1, 8, .other, .pv false (.sc .nilFunc)⟩),
  (136, ⟨1, 8, .other, .pv false (.sc .nilFunc)⟩),
  (137, ⟨1, 8, .other, .pv false (.sc .nilFunc)⟩),
  (138, ⟨1, 8, .other, .pv false (.sc .nilFunc)⟩),
  (140, ⟨1, 8, .other, .pv false (.sc .nilFunc)⟩),
  (141, ⟨1, 8, .other, .pv false (.sc .nilFunc)⟩),
  (142, ⟨1, 8, .ptr 147, .pv false (.sc (.pointer none))⟩),
  (144, ⟨1, 8, .other, .pv false (.sc .nilFunc)⟩),
  (145, ⟨1, 24, .slice 197, .nl⟩),
  (146, ⟨5, 56, .struct [(0, 145), (1, 3), (2, 3), (3, 3), (4, 3)], .ag [.nl, .pv false (.sc (.int .i64 0)), .pv false (.sc (.int .i64 0)), .pv false (.sc (.int .i64 0)), .pv false (.sc (.int .i64 0))]⟩),
  (147, ⟨5, 56, .struct [(0, 145), (1, 3), (2, 3), (3, 3), (4, 3)], .ag [.nl, .pv false (.sc (.int .i64 0)), .pv false (.sc (.int .i64 0)), .pv false (.sc (.int .i64 0)), .pv false (.sc (.int .i64 0))]⟩),
  (148, ⟨1, 8, .other, .pv false (.sc .nilFunc)⟩),
  (149, ⟨1, 8, .other, .pv false (.sc .nilFunc)⟩),
  (150, ⟨1, 8, .other, .pv false (.sc .nilFunc)⟩),
  (151, ⟨1, 8, .other, .pv false (.sc .nilFunc)⟩),
  (152, ⟨1, 8, .other, .pv false (.sc .nilFunc)⟩),
  (153, ⟨1, 8, .int .u64, .pv false (.sc (.int .u64 0))⟩),
  (154, ⟨1, 8, .other, .pv false (.sc .nilFunc)⟩),
  (155, ⟨1, 8, .other, .pv false (.sc .nilFunc)⟩),
  (156, ⟨1, 8, .other, .pv false (.sc .nilFunc)⟩),
  (157, ⟨1, 8, .other, .pv false (.sc .nilFunc)⟩),
  (158, ⟨1, 8, .other, .pv false (.sc .nilFunc)⟩),
  (159, ⟨1, 8, .other, .pv false (.sc .nilFunc)⟩),
  (161, ⟨1, 8, .other, .pv false (.sc .nilFunc)⟩),
  (162, ⟨1, 8, .other, .pv false (.sc .nilFunc)⟩),
  (164, ⟨1, 8, .other, .pv false (.sc .nilFunc)⟩),
  (165, ⟨1, 8, .other, .pv false (.sc .nilFunc)⟩),
  (166, ⟨1, 8, .other, .pv false (.sc .nilFunc)⟩),
  (167, ⟨1, 8, .other, .pv false (.sc .nilFunc)⟩),
  (168, ⟨1, 24, .slice 4, .nl⟩),
  (169, ⟨1, 8, .other, .pv false (.sc .nilFunc)⟩),
  (170, ⟨1, 8, .other, .pv false (.sc .nilFunc)⟩),
  (171, ⟨1, 8, .other, .pv false (.sc .nilFunc)⟩),
  (172, ⟨1, 8, .other, .pv false (.sc .nilFunc)⟩),
  (173, ⟨1, 8, .other, .pv false (.sc .nilFunc)⟩),
  (174, ⟨1, 8, .other, .pv false (.sc .nilFunc)⟩),
  (175, ⟨1, 8, .other, .pv false (.sc .nilFunc)⟩),
  (176, ⟨1, 8, .other, .pv false (.sc .nilFunc)⟩),
  (177, ⟨1, 8, .other, .pv false (.sc .nilFunc)⟩),
  (178, ⟨1, 8, .other, .pv false (.sc .nilFunc)⟩),
  (179, ⟨1, 8, .other, .pv false (.sc .nilFunc)⟩),
  (180, ⟨1, 8, .other, .pv false (.sc .nilFunc)⟩),
  (181, ⟨1, 8, .other, .pv false (.sc .nilFunc)⟩),
  (182, ⟨1, 8, .other, .pv false (.sc .nilFunc)⟩),
  (183, ⟨1, 8, .other, .pv false (.sc .nilFunc)⟩),
  (184, ⟨1, 8, .other, .pv false (.sc .nilFunc)⟩),
  (185, ⟨1, 8, .other, .pv false (.sc .nilFunc)⟩),
  (186, ⟨1, 8, .other, .pv false (.sc .nilFunc)⟩),
  (187, ⟨1, 8, .other, .pv false (.sc .nilFunc)⟩),
  (190, ⟨1, 8, .other, .pv false (.sc .nilFunc)⟩),
  (191, ⟨1, 8, .other, .pv false (.sc .nilFunc)⟩),
  (192, ⟨1, 8, .other, .pv false (.sc .nilFunc)⟩),
  (193, ⟨1, 8, .other, .pv false (.sc .nilFunc)⟩),
  (194, ⟨1, 8, .other, .pv false (.sc .nilFunc)⟩),
  (195, ⟨1, 8, .other, .pv false (.sc .nilFunc)⟩),
  (196, ⟨4, 48, .struct [(0, 3), (1, 3), (2, 3), (3, 22)], .ag [.pv false (.sc (.int .i64 0)), .pv false (.sc (.int .i64 0)), .pv false (.sc (.int .i64 0)), .nl]⟩),
  (197, ⟨4, 48, .struct [(0, 3), (1, 3), (2, 3), (3, 22)], .ag [.pv false (.sc (.int .i64 0)), .pv false (.sc (.int .i64 0)), .pv false (.sc (.int .i64 0)), .nl]⟩),
  (198, ⟨1, 8, .other, .pv false (.sc .nilFunc)⟩),
  (199, ⟨1, 8, .other, .pv false (.sc .nilFunc)⟩),
  (200, ⟨1, 8, .other, .pv false (.sc .nilFunc)⟩),
  (201, ⟨1, 8, .other, .pv false (.sc .nilFunc)⟩),
  (202, ⟨1, 8, .other, .pv false (.sc .nilFunc)⟩),
  (203, ⟨1, 24, .slice 9, .nl⟩),
  (204, ⟨1, 8, .other, .pv false (.sc .nilFunc)⟩),
  (205, ⟨1, 8, .other, .pv false (.sc .nilFunc)⟩),
  (206, ⟨1, 8, .other, .pv false (.sc .nilFunc)⟩),
  (208, ⟨1, 8, .other, .pv false (.sc .nilFunc)⟩),
  (210, ⟨1, 8, .other, .pv false (.sc .nilFunc)⟩),
  (211, ⟨1, 16, .ifc, .pv false (.sc .nilIface)⟩),
  (212, ⟨1, 16, .ifc, .pv false (.sc .nilIface)⟩),
  (214, ⟨1, 8, .other, .pv false (.sc .nilFunc)⟩),
  (215, ⟨1, 8, .other, .pv false (.sc .nilFunc)⟩),
  (216, ⟨1, 8, .other, .pv false (.sc .nilFunc)⟩),
  (217, ⟨1, 8, .other, .pv false (.sc .nilFunc)⟩),
  (218, ⟨1, 8, .other, .pv false (.sc .nilFunc)⟩),
  (219, ⟨1, 8, .other, .pv false (.sc .nilFunc)⟩),
  (220, ⟨1, 8, .other, .pv false (.sc .nilFunc)⟩),
  (221, ⟨1, 8, .other, .pv false (.sc .nilFunc)⟩),
  (222, ⟨1, 8, .other, .pv false (.sc .nilFunc)⟩),
  (223, ⟨1, 8, .other, .pv false (.sc .nilFunc)⟩),
  (224, ⟨1, 8, .other, .pv false (.sc .nilFunc)⟩),
  (225, ⟨1, 8, .other, .pv false (.sc .nilFunc)⟩),
  (226, ⟨1, 8, .other, .pv false (.sc .nilFunc)⟩),
  (227, ⟨1, 8, .other, .pv false (.sc .nilFunc)⟩),
  (228, ⟨1, 8, .other, .pv false (.sc .nilFunc)⟩),
  (229, ⟨1, 8, .other, .pv false (.sc .nilFunc)⟩),
  (230, ⟨1, 8, .other, .pv false (.sc .nilFunc)⟩),
  (231, ⟨1, 8, .other, .pv false (.sc .nilFunc)⟩),
  (232, ⟨1, 8, .ptr 41, .pv false (.sc (.pointer none))⟩),
  (233, ⟨1, 24, .slice 26, .nl⟩),
  (234, ⟨1, 8, .other, .pv false (.sc .nilFunc)⟩),
  (235, ⟨1, 8, .other, .pv false (.sc .nilFunc)⟩),
  (236, ⟨1, 8, .other, .pv false (.sc .nilFunc)⟩),
  (237, ⟨1, 8, .other, .pv false (.sc .nilFunc)⟩),
  (238, ⟨1, 8, .other, .pv false (.sc .nilFunc)⟩),
  (239, ⟨1, 8, .other, .pv false (.sc .nilFunc)⟩),
  (240, ⟨1, 8, .other, .pv false (.sc .nilFunc)⟩),
  (241, ⟨1, 8, .other, .pv false (.sc .nilFunc)⟩),
  (243, ⟨1, 8, .other, .pv false (.sc .nilFunc)⟩),
  (244, ⟨1, 8, .other, .pv false (.sc .nilFunc)⟩),
  (245, ⟨1, 8, .other, .pv false (.sc .nilFunc)⟩),
  (246, ⟨1, 8, .other, .pv false (.sc .nilFunc)⟩),
  (247, ⟨1, 8, .other, .pv false (.sc .nilFunc)⟩),
  (248, ⟨1, 8, .other, .pv false (.sc .nilFunc)⟩),
  (249, ⟨1, 8, .other, .pv false (.sc .nilFunc)⟩),
  (250, ⟨1, 8, .other, .pv false (.sc .nilFunc)⟩),
  (251, ⟨1, 8, .int .i64, .pv false (.sc (.int .i64 0))⟩),
  (253, ⟨1, 8, .other, .pv false (.sc .nilFunc)⟩),
  (254, ⟨1, 8, .other, .pv false (.sc .nilFunc)⟩),
  (255, ⟨1, 8, .other, .pv false (.sc .nilFunc)⟩),
  (256, ⟨1, 8, .other, .pv false (.sc .nilFunc)⟩),
  (257, ⟨1, 8, .other, .pv false (.sc .nilFunc)⟩),
  (258, ⟨1, 4, .int .u32, .pv false (.sc (.int .u32 0))⟩),
  (259, ⟨1, 8, .other, .pv false (.sc .nilFunc)⟩),
  (260, ⟨1, 8, .int .u64, .pv false (.sc (.int .u64 0))⟩),
  (261, ⟨1, 8, .other, .pv false (.sc .nilFunc)⟩),
  (262, ⟨1, 8, .other, .pv false (.sc (.map none))⟩),
  (263, ⟨1, 8, .other, .pv false (.sc .nilFunc)⟩),
  (264, ⟨1, 8, .other, .pv false (.sc .nilFunc)⟩),
  (265, ⟨1, 8, .other, .pv false (.sc .nilFunc)⟩),
  (266, ⟨1, 8, .other, .pv false (.sc .nilFunc)⟩),
  (267, ⟨1, 8, .int .i64, .pv false (.sc (.int .i64 0))⟩),
  (269, ⟨1, 8, .other, .pv false (.sc .nilFunc)⟩),
  (270, ⟨1, 8, .ptr 290, .pv false (.sc (.pointer none))⟩),
  (271, ⟨1, 8, .other, .pv false (.sc .nilFunc)⟩),
  (272, ⟨1, 8, .other, .pv false (.sc .nilFunc)⟩),
  (273, ⟨1, 8, .other, .pv false (.sc .nilFunc)⟩),
  (274, ⟨1, 8, .int .u64, .pv false (.sc (.int .u64 0))⟩),
  (275, ⟨1, 8, .other, .pv false (.sc .nilFunc)⟩),
  (276, ⟨1, 8, .other, .pv false (.sc .nilFunc)⟩),
  (277, ⟨1, 8, .other, .pv false (.sc .nilFunc)⟩),
  (278, ⟨1, 8, .ptr 3, .pv false (.sc (.pointer none))⟩),
  (279, ⟨1, 8, .other, .pv false (.sc .nilFunc)⟩),
  (280, ⟨1, 8, .other, .pv false (.sc .nilFunc)⟩),
  (281, ⟨1, 8, .other, .pv false (.sc .nilFunc)⟩),
  (282, ⟨1, 8, .other, .pv false (.sc .nilFunc)⟩),
  (283, ⟨1, 8, .other, .pv false (.sc .nilFunc)⟩),
  (285, ⟨1, 8, .other, .pv false (.sc .nilFunc)⟩),
  (287, ⟨1, 8, .other, .pv false (.sc .nilFunc)⟩),
  (288, ⟨1, 8, .other, .pv false (.sc .nilFunc)⟩),
  (289, ⟨3, 48, .struct [(0, 9), (1, 9), (2, 212)], .ag [.pv false (.sc (.string ⟨#[]⟩)), .pv false (.sc (.string ⟨#[]⟩)), .pv false (.sc .nilIface)]⟩),
  (290, ⟨3, 48, .struct [(0, 9), (1, 9), (2, 212)], .ag [.pv false (.sc (.string ⟨#[]⟩)), .pv false (.sc (.string ⟨#[]⟩)), .pv false (.sc .nilIface)]⟩),
  (291, ⟨1, 8, .other, .pv false (.sc .nilFunc)⟩),
  (292, ⟨24, 24, .arr 24 5, .ar (List.replicate 24 (.sc (.int .u8 0)))⟩),
  (293, ⟨1, 8, .other, .pv false (.sc .nilFunc)⟩),
  (295, ⟨1, 8, .other, .pv false (.sc .nilFunc)⟩),
  (296, ⟨1, 8, .other, .pv false (.sc .nilFunc)⟩),
  (297, ⟨1, 8, .ptr 274, .pv false (.sc (.pointer none))⟩),
  (299, ⟨1, 8, .other, .pv false (.sc .nilFunc)⟩),
  (300, ⟨1, 8, .other, .pv false (.sc .nilFunc)⟩),
  (301, ⟨1, 8, .other, .pv false (.sc .nilFunc)⟩),
  (302, ⟨1, 8, .ptr 5, .pv false (.sc (.pointer none))⟩),
  (303, ⟨1, 8, .ptr 305, .pv false (.sc (.pointer none))⟩),
  (304, ⟨1, 16, .struct [(0, 9)], .ag [.pv false (.sc (.string ⟨#[]⟩))]⟩),
  (305, ⟨1, 16, .struct [(0, 9)], .ag [.pv false (.sc (.string ⟨#[]⟩))]⟩),
  (306, ⟨1, 8, .other, .pv false (.sc .nilFunc)⟩),
  (307, ⟨20, 160, .arr 20 260, .ar (List.replicate 20 (.sc (.int .u64 0)))⟩),
  (308, ⟨65, 65, .arr 65 5, .ar (List.replicate 65 (.sc (.int .u8 0)))⟩),
  (309, ⟨1, 8, .other, .pv false (.sc .nilFunc)⟩),
  (310, ⟨32, 32, .arr 32 5, .ar (List.replicate 32 (.sc (.int .u8 0)))⟩),
  (311, ⟨64, 64, .arr 64 5, .ar (List.replicate 64 (.sc (.int .u8 0)))⟩),
  (312, ⟨1, 8, .other, .pv false (.sc .nilFunc)⟩),
  (313, ⟨4, 40, .struct [(0, 17), (1, 17), (2, 17), (3, 9)], .ag [.pv false (.sc (.pointer none)), .pv false (.sc (.pointer none)), .pv false (.sc (.pointer none)), .pv false (.sc (.string ⟨#[]⟩))]⟩),
  (314, ⟨4, 40, .struct [(0, 17), (1, 17), (2, 17), (3, 9)], .ag [.pv false (.sc (.pointer none)), .pv false (.sc (.pointer none)), .pv false (.sc (.pointer none)), .pv false (.sc (.string ⟨#[]⟩))]⟩),
  (315, ⟨0, 0, .arr 0 16, .ar []⟩),
  (318, ⟨1, 1, .int .u8, .pv false (.sc (.int .u8 0))⟩),
  (319, ⟨1, 1, .int .u8, .pv false (.sc (.int .u8 0))⟩),
  (320, ⟨1, 8, .other, .pv false (.sc .nilFunc)⟩),
  (321, ⟨1, 4, .int .i32, .pv false (.sc (.int .i32 0))⟩),
  (322, ⟨1, 4, .int .i32, .pv false (.sc (.int .i32 0))⟩),
  (323, ⟨11, 48, .struct [(0, 12), (1, 12), (2, 258), (3, 318), (4, 5), (5, 5), (6, 319), (7, 320), (8, 302), (9, 321), (10, 322)], .ag [.pv false (.sc (.int .u64 0)), .pv false (.sc (.int .u64 0)), .pv false (.sc (.int .u32 0)), .pv false (.sc (.int .u8 0)), .pv false (.sc (.int .u8 0)), .pv false (.sc (.int .u8 0)), .pv false (.sc (.int .u8 0)), .pv false (.sc .nilFunc), .pv false (.sc (.pointer none)), .pv false (.sc (.int .i32 0)), .pv false (.sc (.int .i32 0))]⟩),
  (324, ⟨11, 48, .struct [(0, 12), (1, 12), (2, 258), (3, 318), (4, 5), (5, 5), (6, 319), (7, 320), (8, 302), (9, 321), (10, 322)], .ag [.pv false (.sc (.int .u64 0)), .pv false (.sc (.int .u64 0)), .pv false (.sc (.int .u32 0)), .pv false (.sc (.int .u8 0)), .pv false (.sc (.int .u8 0)), .pv false (.sc (.int .u8 0)), .pv false (.sc (.int .u8 0)), .pv false (.sc .nilFunc), .pv false (.sc (.pointer none)), .pv false (.sc (.int .i32 0)), .pv false (.sc (.int .i32 0))]⟩),
  (325, ⟨1, 8, .other, .pv false (.sc .nilFunc)⟩),
  (326, ⟨1, 8, .other, .pv false (.sc (.pointer none))⟩),
  (327, ⟨2, 32, .struct [(0, 70), (1, 3)], .ag [.nl, .pv false (.sc (.int .i64 0))]⟩),
  (328, ⟨2, 32, .struct [(0, 70), (1, 3)], .ag [.nl, .pv false (.sc (.int .i64 0))]⟩)]
theorem look_all {α : Type} {f : Nat → α → Bool} : ∀ {l : List (Nat × α)}, (l.all fun x => f x.1 x.2) = true → ∀ {i : Nat} {a : α}, Pm.look l i = some a → f i a = true := by
  intro l
  induction l with
  | nil => intro _ i a h; cases h
  | cons x l ih =>
    intro h i a hl
    simp only [List.all_cons, Bool.and_eq_true] at h
    simp only [Pm.look] at hl
    split at hl
    · rename_i e; cases hl; rw [e]; exact h.1
    · exact ih h.2 hl
theorem tab_ok : (tab.all fun x => tyOk Tryz.prog x.1 x.2) = true := by kernel_rfl
def tyT (t : Nat) : Option TI := Pm.look tab t
def sigs : List (Nat × Sig) := [(7, ⟨[], .tu [.own 3 1, .d], false⟩), (15, ⟨[], .tu [.own 3 1, .d], false⟩), (5, ⟨[], .tu [.ag [.d, .own 37 2], .d], false⟩), (16, ⟨[], .any, false⟩), (44, ⟨[true], .d, false⟩), (18, ⟨[true], .d, false⟩), (19, ⟨[true], .d, false⟩), (43, ⟨[true], .d, false⟩), (83, ⟨[true, false], .own 37 2, false⟩), (42, ⟨[true], .ag [.d, .own 37 2], false⟩), (17, ⟨[true], .ag [.d, .own 37 2], false⟩), (9, ⟨[], .tu [.ag [.d, .own 37 2], .own 3 1], false⟩), (188, ⟨[true], .d, false⟩), (134, ⟨[true], .d, false⟩), (133, ⟨[true], .d, false⟩), (136, ⟨[true], .d, false⟩), (135, ⟨[true], .d, false⟩), (246, ⟨[true], .d, false⟩), (266, ⟨[true], .d, false⟩), (267, ⟨[true], .d, false⟩), (258, ⟨[true], .d, false⟩), (265, ⟨[true], .d, false⟩), (245, ⟨[true], .d, false⟩), (224, ⟨[true], .d, false⟩), (190, ⟨[true], .d, false⟩), (137, ⟨[true], .d, false⟩), (77, ⟨[true], .d, false⟩), (76, ⟨[false], .tu [.any, .d, .d], false⟩), (80, ⟨[false], .ag [.d, .d, .d, .d, .own 56 9], false⟩), (71, ⟨[false], .ag [.d, .d, .d, .own 22 1, .own 54 5], false⟩), (53, ⟨[false], .ag [.d, .d, .d, .d, .d, .own 81 9, .d], false⟩), (116, ⟨[true, false], .d, false⟩), (114, ⟨[true, false, true], .own 56 9, false⟩), (126, ⟨[true, false, true], .own 54 5, false⟩), (125, ⟨[true, false, true], .own 22 1, false⟩), (115, ⟨[true], .own 56 9, false⟩), (168, ⟨[true], .own 54 5, false⟩), (167, ⟨[true], .own 22 1, false⟩), (159, ⟨[true], .own 3 1, false⟩), (164, ⟨[true], .own 22 1, false⟩), (103, ⟨[true], .d, false⟩), (165, ⟨[true], .d, false⟩), (207, ⟨[true], .d, false⟩), (208, ⟨[true], .d, false⟩), (209, ⟨[true], .d, false⟩), (210, ⟨[true], .d, false⟩), (211, ⟨[true], .d, false⟩), (212, ⟨[true], .d, false⟩), (213, ⟨[true], .d, false⟩), (214, ⟨[true], .d, false⟩), (70, ⟨[true, false, true], .ag [.d, .d, .d, .own 22 1, .own 54 5], false⟩), (26, ⟨[false, true], .any, false⟩), (12, ⟨[false, false, true], .tu [.ag [.d, .d, .d, .d, .d, .own 81 9, .d], .d, .d], false⟩), (27, ⟨[true], .d, false⟩), (29, ⟨[true], .d, false⟩), (30, ⟨[true], .d, false⟩), (36, ⟨[true], .d, false⟩), (37, ⟨[true], .d, false⟩), (75, ⟨[true], .tu [.d, .d], false⟩), (131, ⟨[true], .d, false⟩), (35, ⟨[false, false, false, false, true], .tu [.ag [.d, .d, .d, .own 22 1, .own 54 5], .d], false⟩), (68, ⟨[false, false, false, true], .d, false⟩), (113, ⟨[false], .own 22 1, false⟩), (31, ⟨[false, true, true, true], .tu [.ag [.d, .d, .d, .own 22 1, .own 54 5], .d], false⟩), (4, ⟨[], .tu [.d, .d], false⟩), (14, ⟨[], .tu [.d, .d], false⟩), (28, ⟨[], .tu [.d, .d, .d], false⟩), (38, ⟨[], .tu [.d, .d, .d], false⟩), (55, ⟨[], .tu [.d, .d, .d, .d], false⟩), (62, ⟨[], .tu [.d, .d], false⟩), (69, ⟨[], .tu [.d, .d], false⟩), (97, ⟨[], .tu [.d, .d, .d], false⟩), (99, ⟨[], .tu [.d, .d], false⟩), (110, ⟨[], .tu [.d, .d], false⟩), (117, ⟨[], .tu [.d, .d], false⟩), (118, ⟨[], .tu [.d, .d], false⟩), (119, ⟨[], .tu [.d, .d], false⟩), (120, ⟨[], .tu [.d, .d], false⟩), (123, ⟨[], .tu [.d, .d], false⟩), (124, ⟨[], .tu [.d, .d], false⟩), (132, ⟨[], .tu [.d, .d], false⟩), (152, ⟨[], .tu [.d, .d], false⟩), (171, ⟨[], .tu [.d, .d], false⟩), (187, ⟨[], .tu [.d, .d], false⟩), (200, ⟨[], .tu [.d, .d], false⟩), (230, ⟨[], .tu [.d, .d], false⟩), (248, ⟨[], .tu [.d, .d], false⟩), (249, ⟨[], .tu [.d, .d], false⟩), (255, ⟨[], .tu [.d, .d], false⟩), (257, ⟨[], .tu [.d, .d], false⟩), (149, ⟨[], .tu [.d, .d, .d], false⟩), (151, ⟨[], .tu [.d, .d], false⟩), (150, ⟨[], .tu [.d, .d], false⟩), (223, ⟨[], .d, false⟩), (206, ⟨[], .d, false⟩), (236, ⟨[], .d, false⟩), (256, ⟨[], .d, false⟩), (254, ⟨[], .d, false⟩), (129, ⟨[], .tu [.d, .d], false⟩), (74, ⟨[], .tu [.d, .d], false⟩), (66, ⟨[], .tu [.d, .d], false⟩), (39, ⟨[], .tu [.d, .d], false⟩)]
def sgOf (f : FuncId) : Sig := (Pm.look sigs f).getD ⟨[], .d, false⟩
/-- The slices of bytes. -/
def bs0 : List Nat := [22]
attribute [simp] bs0
/-! what is known of the library's functions without their code -/
def cmpB : List Int → List Int → Int
  | [], [] => 0
  | [], _ :: _ => -1
  | _ :: _, [] => 1
  | a :: k, b :: l => if a < b then -1 else if b < a then 1 else cmpB k l
/-- Where a byte is first, or -1. -/
def idxB (c : Int) : List Int → Nat → Int
  | [], _ => -1
  | a :: l, i => if a = c then i else idxB c l (i + 1)
def byteOk (l : List Int) : Bool := l.all fun x => decide (0 ≤ x) && decide (x < 256)
def extBB (g : List Int → List Int → TV) : List TV → Hp → Option Res
  | [.pv _ (.sl r), .pv _ (.sl q)], [] => match bytesOf r, bytesOf q with
    | some a, some b => if byteOk a && byteOk b then some (g a b, []) else none
    | _, _ => none
  | _, _ => none
def extBC (g : List Int → Int → TV) : List TV → Hp → Option Res
  | [.pv _ (.sl r), .pv _ (.sc (.int .u8 c))], [] => match bytesOf r with
    | some a => if byteOk a && byteOk [c] then some (g a c, []) else none
    | none => none
  | _, _ => none
/-- A row's element is put in. -/
def extI (e k : Nat) : List TV → Hp → Option Res
  | [.ref 0 0 len, .pv _ (.sc (.int .i64 i)), .ref 1 0 1], [(0, .row .io e0 k0 rows), (1, .row .io e1 k1 [x])] => if e0 = e ∧ e1 = e ∧ k0 = k ∧ k1 = k ∧ len = rows.length ∧ 0 ≤ i ∧ i ≤ rows.length ∧ rows.length ≤ 1048576 ∧ x.length = k then some (.ref 16 0 (len + 1), [(0, .dead), (1, .row .io e k [x]), (16, .row .io e k (rows.take i.toNat ++ x :: rows.drop i.toNat))]) else none
  | [.nl, .pv _ (.sc (.int .i64 i)), .ref 0 0 1], [(0, .row .io e1 k1 [x])] => if e1 = e ∧ k1 = k ∧ i = 0 ∧ x.length = k then some (.ref 16 0 1, [(0, .row .io e k [x]), (16, .row .own e k [x])]) else none
  | _, _ => none
/-- These have rows of their own, under the machine that runs closed calls. -/
def isExt1 (f : FuncId) : Bool := f == 91 || f == 226 || f == 114 || f == 126 || f == 125
def ext1 (f : FuncId) (ts : List TV) (hp : Hp) : Option Res :=
  bif f == 91 then extBB (fun a b => (.pv false (.sc (.int .i64 (cmpB a b))))) ts hp else
  bif f == 226 then extBC (fun a c => (.pv false (.sc (.int .i64 (idxB c a 0))))) ts hp else
  bif f == 114 then extI 56 9 ts hp else
  bif f == 126 then extI 54 5 ts hp else
  bif f == 125 then extI 22 1 ts hp else none
/-- What a configuration wants is brought about: the closed call, by running it. -/
def extA : List TV → Hp → Option Res
  | [], [] => some (.pv false (.sc (.bool true)), [])
  | _, _ => none
def isExt (f : FuncId) : Bool := f == 6 || isExt1 f
def ext0 (f : FuncId) (ts : List TV) (hp : Hp) : Option Res := bif f == 6 then extA ts hp else ext1 f ts hp
theorem ext0_none {f : FuncId} (h : isExt f = false) (ts : List TV) (hp : Hp) : ext0 f ts hp = none := by
  simp only [isExt, isExt1, Bool.or_eq_false_iff] at h
  simp [ext0, ext1, h]
/-- The program, where that is not known yet. -/
noncomputable def C1 : Cfg := ⟨Tryz.prog, tyT, sgOf, ext1, bs0, 0, fun _ => True⟩
noncomputable def C0 : Cfg := ⟨Tryz.prog, tyT, sgOf, ext0, bs0, 0, fun _ => True⟩
@[simp] theorem C0_bs : C0.bs = bs0 := rfl
@[simp] theorem C0_T : C0.T = tyT := rfl
@[simp] theorem C0_sg (f : FuncId) : C0.sg f = sgOf f := rfl
theorem tabOk : TabOk C0 := fun t i h => tyOk_of (look_all (f := tyOk Tryz.prog) tab_ok h)
theorem tabOk1 : TabOk C1 := fun t i h => tyOk_of (look_all (f := tyOk Tryz.prog) tab_ok h)
@[simp] theorem tyT1 : tyT 1 = some ⟨1, 8, .other, .pv false (.sc .nilFunc)⟩ := by kernel_rfl
@[simp] theorem tyT2 : tyT 2 = some ⟨1, 8, .int .i64, .pv false (.sc (.int .i64 0))⟩ := by kernel_rfl
@[simp] theorem tyT3 : tyT 3 = some ⟨1, 8, .int .i64, .pv false (.sc (.int .i64 0))⟩ := by kernel_rfl
@[simp] theorem tyT4 : tyT 4 = some ⟨1, 1, .bool, .pv false (.sc (.bool false))⟩ := by kernel_rfl
@[simp] theorem tyT5 : tyT 5 = some ⟨1, 1, .int .u8, .pv false (.sc (.int .u8 0))⟩ := by kernel_rfl
@[simp] theorem tyT6 : tyT 6 = some ⟨1, 1, .int .u8, .pv false (.sc (.int .u8 0))⟩ := by kernel_rfl
@[simp] theorem tyT7 : tyT 7 = some ⟨4, 24, .struct [(0, 2), (1, 3), (2, 4), (3, 6)], .ag [.pv false (.sc (.int .i64 0)), .pv false (.sc (.int .i64 0)), .pv false (.sc (.bool false)), .pv false (.sc (.int .u8 0))]⟩ := by kernel_rfl
@[simp] theorem tyT8 : tyT 8 = some ⟨4, 24, .struct [(0, 2), (1, 3), (2, 4), (3, 6)], .ag [.pv false (.sc (.int .i64 0)), .pv false (.sc (.int .i64 0)), .pv false (.sc (.bool false)), .pv false (.sc (.int .u8 0))]⟩ := by kernel_rfl
@[simp] theorem tyT9 : tyT 9 = some ⟨1, 16, .str, .pv false (.sc (.string ⟨#[]⟩))⟩ := by kernel_rfl
@[simp] theorem tyT10 : tyT 10 = some ⟨1, 16, .str, .pv false (.sc (.string ⟨#[]⟩))⟩ := by kernel_rfl
@[simp] theorem tyT11 : tyT 11 = some ⟨1, 16, .str, .pv false (.sc (.string ⟨#[]⟩))⟩ := by kernel_rfl
@[simp] theorem tyT12 : tyT 12 = some ⟨1, 8, .int .u64, .pv false (.sc (.int .u64 0))⟩ := by kernel_rfl
@[simp] theorem tyT13 : tyT 13 = some ⟨2, 24, .struct [(0, 9), (1, 12)], .ag [.pv false (.sc (.string ⟨#[]⟩)), .pv false (.sc (.int .u64 0))]⟩ := by kernel_rfl
@[simp] theorem tyT14 : tyT 14 = some ⟨2, 24, .struct [(0, 9), (1, 12)], .ag [.pv false (.sc (.string ⟨#[]⟩)), .pv false (.sc (.int .u64 0))]⟩ := by kernel_rfl
@[simp] theorem tyT15 : tyT 15 = some ⟨1, 8, .ptr 314, .pv false (.sc (.pointer none))⟩ := by kernel_rfl
@[simp] theorem tyT16 : tyT 16 = some ⟨1, 8, .ptr 317, .pv false (.sc (.pointer none))⟩ := by kernel_rfl
@[simp] theorem tyT17 : tyT 17 = some ⟨1, 8, .ptr 324, .pv false (.sc (.pointer none))⟩ := by kernel_rfl
@[simp] theorem tyT18 : tyT 18 = some ⟨1, 8, .struct [(0, 17)], .ag [.pv false (.sc (.pointer none))]⟩ := by kernel_rfl
@[simp] theorem tyT19 : tyT 19 = some ⟨1, 8, .struct [(0, 17)], .ag [.pv false (.sc (.pointer none))]⟩ := by kernel_rfl
@[simp] theorem tyT20 : tyT 20 = some ⟨1, 16, .ifc, .pv false (.sc .nilIface)⟩ := by kernel_rfl
@[simp] theorem tyT21 : tyT 21 = some ⟨1, 4, .int .i32, .pv false (.sc (.int .i32 0))⟩ := by kernel_rfl
@[simp] theorem tyT22 : tyT 22 = some ⟨1, 24, .slice 5, .nl⟩ := by kernel_rfl
@[simp] theorem tyT23 : tyT 23 = some ⟨1, 24, .slice 37, .nl⟩ := by kernel_rfl
@[simp] theorem tyT24 : tyT 24 = some ⟨2, 32, .struct [(0, 3), (1, 23)], .ag [.pv false (.sc (.int .i64 0)), .nl]⟩ := by kernel_rfl
@[simp] theorem tyT25 : tyT 25 = some ⟨2, 32, .struct [(0, 3), (1, 23)], .ag [.pv false (.sc (.int .i64 0)), .nl]⟩ := by kernel_rfl
@[simp] theorem tyT26 : tyT 26 = some ⟨1, 24, .slice 3, .nl⟩ := by kernel_rfl
@[simp] theorem tyT28 : tyT 28 = some ⟨1, 8, .other, .pv false (.sc .nilFunc)⟩ := by kernel_rfl
@[simp] theorem tyT30 : tyT 30 = some ⟨1, 8, .other, .pv false (.sc .nilFunc)⟩ := by kernel_rfl
@[simp] theorem tyT31 : tyT 31 = some ⟨1, 8, .other, .pv false (.sc .nilFunc)⟩ := by kernel_rfl
@[simp] theorem tyT33 : tyT 33 = some ⟨1, 8, .other, .pv false (.sc .nilFunc)⟩ := by kernel_rfl
@[simp] theorem tyT34 : tyT 34 = some ⟨1, 8, .other, .pv false (.sc .nilFunc)⟩ := by kernel_rfl
@[simp] theorem tyT35 : tyT 35 = some ⟨1, 8, .other, .pv false (.sc .nilFunc)⟩ := by kernel_rfl
@[simp] theorem tyT36 : tyT 36 = some ⟨2, 16, .struct [(0, 3), (1, 3)], .ag [.pv false (.sc (.int .i64 0)), .pv false (.sc (.int .i64 0))]⟩ := by kernel_rfl
@[simp] theorem tyT37 : tyT 37 = some ⟨2, 16, .struct [(0, 3), (1, 3)], .ag [.pv false (.sc (.int .i64 0)), .pv false (.sc (.int .i64 0))]⟩ := by kernel_rfl
@[simp] theorem tyT38 : tyT 38 = some ⟨1, 8, .other, .pv false (.sc .nilFunc)⟩ := by kernel_rfl
@[simp] theorem tyT39 : tyT 39 = some ⟨1, 24, .slice 56, .nl⟩ := by kernel_rfl
@[simp] theorem tyT40 : tyT 40 = some ⟨5, 72, .struct [(0, 3), (1, 4), (2, 22), (3, 3), (4, 39)], .ag [.pv false (.sc (.int .i64 0)), .pv false (.sc (.bool false)), .nl, .pv false (.sc (.int .i64 0)), .nl]⟩ := by kernel_rfl
@[simp] theorem tyT41 : tyT 41 = some ⟨5, 72, .struct [(0, 3), (1, 4), (2, 22), (3, 3), (4, 39)], .ag [.pv false (.sc (.int .i64 0)), .pv false (.sc (.bool false)), .nl, .pv false (.sc (.int .i64 0)), .nl]⟩ := by kernel_rfl
@[simp] theorem tyT42 : tyT 42 = some ⟨1, 24, .slice 81, .nl⟩ := by kernel_rfl
@[simp] theorem tyT43 : tyT 43 = some ⟨7, 104, .struct [(0, 41), (5, 42), (6, 3)], .ag [.pv false (.sc (.int .i64 0)), .pv false (.sc (.bool false)), .nl, .pv false (.sc (.int .i64 0)), .nl, .nl, .pv false (.sc (.int .i64 0))]⟩ := by kernel_rfl
@[simp] theorem tyT44 : tyT 44 = some ⟨7, 104, .struct [(0, 41), (5, 42), (6, 3)], .ag [.pv false (.sc (.int .i64 0)), .pv false (.sc (.bool false)), .nl, .pv false (.sc (.int .i64 0)), .nl, .nl, .pv false (.sc (.int .i64 0))]⟩ := by kernel_rfl
@[simp] theorem tyT46 : tyT 46 = some ⟨1, 8, .other, .pv false (.sc .nilFunc)⟩ := by kernel_rfl
@[simp] theorem tyT47 : tyT 47 = some ⟨1, 24, .slice 111, .nl⟩ := by kernel_rfl
@[simp] theorem tyT48 : tyT 48 = some ⟨1, 8, .other, .pv false (.sc .nilFunc)⟩ := by kernel_rfl
@[simp] theorem tyT50 : tyT 50 = some ⟨1, 8, .other, .pv false (.sc .nilFunc)⟩ := by kernel_rfl
@[simp] theorem tyT51 : tyT 51 = some ⟨1, 24, .slice 22, .nl⟩ := by kernel_rfl
@[simp] theorem tyT52 : tyT 52 = some ⟨1, 24, .slice 54, .nl⟩ := by kernel_rfl
@[simp] theorem tyT53 : tyT 53 = some ⟨5, 88, .struct [(0, 3), (1, 3), (2, 22), (3, 51), (4, 52)], .ag [.pv false (.sc (.int .i64 0)), .pv false (.sc (.int .i64 0)), .nl, .nl, .nl]⟩ := by kernel_rfl
@[simp] theorem tyT54 : tyT 54 = some ⟨5, 88, .struct [(0, 3), (1, 3), (2, 22), (3, 51), (4, 52)], .ag [.pv false (.sc (.int .i64 0)), .pv false (.sc (.int .i64 0)), .nl, .nl, .nl]⟩ := by kernel_rfl
@[simp] theorem tyT55 : tyT 55 = some ⟨9, 152, .struct [(0, 22), (1, 54), (6, 51), (7, 4), (8, 3)], .ag [.nl, .pv false (.sc (.int .i64 0)), .pv false (.sc (.int .i64 0)), .nl, .nl, .nl, .nl, .pv false (.sc (.bool false)), .pv false (.sc (.int .i64 0))]⟩ := by kernel_rfl
@[simp] theorem tyT56 : tyT 56 = some ⟨9, 152, .struct [(0, 22), (1, 54), (6, 51), (7, 4), (8, 3)], .ag [.nl, .pv false (.sc (.int .i64 0)), .pv false (.sc (.int .i64 0)), .nl, .nl, .nl, .nl, .pv false (.sc (.bool false)), .pv false (.sc (.int .i64 0))]⟩ := by kernel_rfl
@[simp] theorem tyT57 : tyT 57 = some ⟨1, 8, .ptr 102, .pv false (.sc (.pointer none))⟩ := by kernel_rfl
@[simp] theorem tyT58 : tyT 58 = some ⟨1, 8, .other, .pv false (.sc .nilFunc)⟩ := by kernel_rfl
@[simp] theorem tyT59 : tyT 59 = some ⟨1, 8, .other, .pv false (.sc .nilFunc)⟩ := by kernel_rfl
@[simp] theorem tyT60 : tyT 60 = some ⟨1, 8, .other, .pv false (.sc .nilFunc)⟩ := by kernel_rfl
@[simp] theorem tyT61 : tyT 61 = some ⟨1, 8, .other, .pv false (.sc .nilFunc)⟩ := by kernel_rfl
@[simp] theorem tyT62 : tyT 62 = some ⟨1, 8, .other, .pv false (.sc .nilFunc)⟩ := by kernel_rfl
@[simp] theorem tyT63 : tyT 63 = some ⟨1, 8, .other, .pv false (.sc .nilFunc)⟩ := by kernel_rfl
@[simp] theorem tyT64 : tyT 64 = some ⟨1, 8, .other, .pv false (.sc .nilFunc)⟩ := by kernel_rfl
@[simp] theorem tyT65 : tyT 65 = some ⟨1, 8, .other, .pv false (.sc .nilFunc)⟩ := by kernel_rfl
@[simp] theorem tyT66 : tyT 66 = some ⟨1, 8, .other, .pv false (.sc .nilFunc)⟩ := by kernel_rfl
@[simp] theorem tyT67 : tyT 67 = some ⟨1, 8, .other, .pv false (.sc .nilFunc)⟩ := by kernel_rfl
@[simp] theorem tyT68 : tyT 68 = some ⟨1, 8, .ptr 78, .pv false (.sc (.pointer none))⟩ := by kernel_rfl
@[simp] theorem tyT69 : tyT 69 = some ⟨1, 8, .other, .pv false (.sc .nilFunc)⟩ := by kernel_rfl
@[simp] theorem tyT70 : tyT 70 = some ⟨1, 24, .slice 83, .nl⟩ := by kernel_rfl
@[simp] theorem tyT71 : tyT 71 = some ⟨1, 24, .slice 86, .nl⟩ := by kernel_rfl
@[simp] theorem tyT72 : tyT 72 = some ⟨9, 168, .struct [(0, 70), (1, 3), (2, 71), (3, 54), (8, 52)], .ag [.nl, .pv false (.sc (.int .i64 0)), .nl, .pv false (.sc (.int .i64 0)), .pv false (.sc (.int .i64 0)), .nl, .nl, .nl, .nl]⟩ := by kernel_rfl
@[simp] theorem tyT73 : tyT 73 = some ⟨9, 168, .struct [(0, 70), (1, 3), (2, 71), (3, 54), (8, 52)], .ag [.nl, .pv false (.sc (.int .i64 0)), .nl, .pv false (.sc (.int .i64 0)), .pv false (.sc (.int .i64 0)), .nl, .nl, .nl, .nl]⟩ := by kernel_rfl
@[simp] theorem tyT75 : tyT 75 = some ⟨1, 8, .other, .pv false (.sc .nilFunc)⟩ := by kernel_rfl
@[simp] theorem tyT76 : tyT 76 = some ⟨1, 8, .other, .pv false (.sc .nilFunc)⟩ := by kernel_rfl
@[simp] theorem tyT77 : tyT 77 = some ⟨16, 256, .struct [(0, 44), (7, 41), (12, 26), (13, 76), (14, 26), (15, 51)], .ag [.pv false (.sc (.int .i64 0)), .pv false (.sc (.bool false)), .nl, .pv false (.sc (.int .i64 0)), .nl, .nl, .pv false (.sc (.int .i64 0)), .pv false (.sc (.int .i64 0)), .pv false (.sc (.bool false)), .nl, .pv false (.sc (.int .i64 0)), .nl, .nl, .pv false (.sc .nilFunc), .nl, .nl]⟩ := by kernel_rfl
@[simp] theorem tyT78 : tyT 78 = some ⟨16, 256, .struct [(0, 44), (7, 41), (12, 26), (13, 76), (14, 26), (15, 51)], .ag [.pv false (.sc (.int .i64 0)), .pv false (.sc (.bool false)), .nl, .pv false (.sc (.int .i64 0)), .nl, .nl, .pv false (.sc (.int .i64 0)), .pv false (.sc (.int .i64 0)), .pv false (.sc (.bool false)), .nl, .pv false (.sc (.int .i64 0)), .nl, .nl, .pv false (.sc .nilFunc), .nl, .nl]⟩ := by kernel_rfl
@[simp] theorem tyT79 : tyT 79 = some ⟨1, 8, .other, .pv false (.sc .nilFunc)⟩ := by kernel_rfl
@[simp] theorem tyT80 : tyT 80 = some ⟨9, 152, .struct [(0, 3), (1, 22), (2, 3), (3, 54), (8, 51)], .ag [.pv false (.sc (.int .i64 0)), .nl, .pv false (.sc (.int .i64 0)), .pv false (.sc (.int .i64 0)), .pv false (.sc (.int .i64 0)), .nl, .nl, .nl, .nl]⟩ := by kernel_rfl
@[simp] theorem tyT81 : tyT 81 = some ⟨9, 152, .struct [(0, 3), (1, 22), (2, 3), (3, 54), (8, 51)], .ag [.pv false (.sc (.int .i64 0)), .nl, .pv false (.sc (.int .i64 0)), .pv false (.sc (.int .i64 0)), .pv false (.sc (.int .i64 0)), .nl, .nl, .nl, .nl]⟩ := by kernel_rfl
@[simp] theorem tyT82 : tyT 82 = some ⟨9, 152, .struct [(0, 3), (1, 22), (2, 3), (3, 54), (8, 51)], .ag [.pv false (.sc (.int .i64 0)), .nl, .pv false (.sc (.int .i64 0)), .pv false (.sc (.int .i64 0)), .pv false (.sc (.int .i64 0)), .nl, .nl, .nl, .nl]⟩ := by kernel_rfl
@[simp] theorem tyT83 : tyT 83 = some ⟨9, 152, .struct [(0, 3), (1, 22), (2, 3), (3, 54), (8, 51)], .ag [.pv false (.sc (.int .i64 0)), .nl, .pv false (.sc (.int .i64 0)), .pv false (.sc (.int .i64 0)), .pv false (.sc (.int .i64 0)), .nl, .nl, .nl, .nl]⟩ := by kernel_rfl
@[simp] theorem tyT84 : tyT 84 = some ⟨1, 8, .other, .pv false (.sc .nilFunc)⟩ := by kernel_rfl
@[simp] theorem tyT85 : tyT 85 = some ⟨17, 296, .struct [(0, 22), (1, 3), (2, 54), (7, 54), (12, 54)], .ag [.nl, .pv false (.sc (.int .i64 0)), .pv false (.sc (.int .i64 0)), .pv false (.sc (.int .i64 0)), .nl, .nl, .nl, .pv false (.sc (.int .i64 0)), .pv false (.sc (.int .i64 0)), .nl, .nl, .nl, .pv false (.sc (.int .i64 0)), .pv false (.sc (.int .i64 0)), .nl, .nl, .nl]⟩ := by kernel_rfl
@[simp] theorem tyT86 : tyT 86 = some ⟨17, 296, .struct [(0, 22), (1, 3), (2, 54), (7, 54), (12, 54)], .ag [.nl, .pv false (.sc (.int .i64 0)), .pv false (.sc (.int .i64 0)), .pv false (.sc (.int .i64 0)), .nl, .nl, .nl, .pv false (.sc (.int .i64 0)), .pv false (.sc (.int .i64 0)), .nl, .nl, .nl, .pv false (.sc (.int .i64 0)), .pv false (.sc (.int .i64 0)), .nl, .nl, .nl]⟩ := by kernel_rfl
@[simp] theorem tyT87 : tyT 87 = some ⟨1, 8, .other, .pv false (.sc .nilFunc)⟩ := by kernel_rfl
@[simp] theorem tyT88 : tyT 88 = some ⟨1, 8, .other, .pv false (.sc .nilFunc)⟩ := by kernel_rfl
@[simp] theorem tyT90 : tyT 90 = some ⟨1, 8, .other, .pv false (.sc .nilFunc)⟩ := by kernel_rfl
@[simp] theorem tyT91 : tyT 91 = some ⟨1, 8, .other, .pv false (.sc .nilFunc)⟩ := by kernel_rfl
@[simp] theorem tyT92 : tyT 92 = some ⟨1, 8, .other, .pv false (.sc .nilFunc)⟩ := by kernel_rfl
@[simp] theorem tyT94 : tyT 94 = some ⟨1, 8, .other, .pv false (.sc .nilFunc)⟩ := by kernel_rfl
@[simp] theorem tyT95 : tyT 95 = some ⟨1, 24, .slice 41, .nl⟩ := by kernel_rfl
@[simp] theorem tyT97 : tyT 97 = some ⟨1, 8, .other, .pv false (.sc .nilFunc)⟩ := by kernel_rfl
@[simp] theorem tyT98 : tyT 98 = some ⟨20, 20, .arr 20 4, .ar (List.replicate 20 (.sc (.bool false)))⟩ := by kernel_rfl
@[simp] theorem tyT99 : tyT 99 = some ⟨1, 8, .other, .pv false (.sc .nilFunc)⟩ := by kernel_rfl
@[simp] theorem tyT100 : tyT 100 = some ⟨1, 8, .other, .pv false (.sc .nilFunc)⟩ := by kernel_rfl
@[simp] theorem tyT101 : tyT 101 = some ⟨3, 40, .struct [(0, 22), (1, 3), (2, 3)], .ag [.nl, .pv false (.sc (.int .i64 0)), .pv false (.sc (.int .i64 0))]⟩ := by kernel_rfl
@[simp] theorem tyT102 : tyT 102 = some ⟨3, 40, .struct [(0, 22), (1, 3), (2, 3)], .ag [.nl, .pv false (.sc (.int .i64 0)), .pv false (.sc (.int .i64 0))]⟩ := by kernel_rfl
@[simp] theorem tyT103 : tyT 103 = some ⟨1, 8, .other, .pv false (.sc .nilFunc)⟩ := by kernel_rfl
@[simp] theorem tyT104 : tyT 104 = some ⟨1, 8, .other, .pv false (.sc .nilFunc)⟩ := by kernel_rfl
@[simp] theorem tyT105 : tyT 105 = some ⟨1, 8, .other, .pv false (.sc .nilFunc)⟩ := by kernel_rfl
@[simp] theorem tyT106 : tyT 106 = some ⟨1, 8, .other, .pv false (.sc .nilFunc)⟩ := by kernel_rfl
@[simp] theorem tyT107 : tyT 107 = some ⟨1, 24, .slice 109, .nl⟩ := by kernel_rfl
@[simp] theorem tyT108 : tyT 108 = some ⟨5, 88, .struct [(0, 3), (1, 3), (2, 22), (3, 51), (4, 107)], .ag [.pv false (.sc (.int .i64 0)), .pv false (.sc (.int .i64 0)), .nl, .nl, .nl]⟩ := by kernel_rfl
@[simp] theorem tyT109 : tyT 109 = some ⟨5, 88, .struct [(0, 3), (1, 3), (2, 22), (3, 51), (4, 107)], .ag [.pv false (.sc (.int .i64 0)), .pv false (.sc (.int .i64 0)), .nl, .nl, .nl]⟩ := by kernel_rfl
@[simp] theorem tyT110 : tyT 110 = some ⟨10, 176, .struct [(0, 3), (1, 22), (2, 3), (3, 109), (8, 51), (9, 107)], .ag [.pv false (.sc (.int .i64 0)), .nl, .pv false (.sc (.int .i64 0)), .pv false (.sc (.int .i64 0)), .pv false (.sc (.int .i64 0)), .nl, .nl, .nl, .nl, .nl]⟩ := by kernel_rfl
@[simp] theorem tyT111 : tyT 111 = some ⟨10, 176, .struct [(0, 3), (1, 22), (2, 3), (3, 109), (8, 51), (9, 107)], .ag [.pv false (.sc (.int .i64 0)), .nl, .pv false (.sc (.int .i64 0)), .pv false (.sc (.int .i64 0)), .pv false (.sc (.int .i64 0)), .nl, .nl, .nl, .nl, .nl]⟩ := by kernel_rfl
@[simp] theorem tyT112 : tyT 112 = some ⟨1, 8, .other, .pv false (.sc .nilFunc)⟩ := by kernel_rfl
@[simp] theorem tyT113 : tyT 113 = some ⟨1, 8, .other, .pv false (.sc .nilFunc)⟩ := by kernel_rfl
@[simp] theorem tyT114 : tyT 114 = some ⟨1, 8, .other, .pv false (.sc .nilFunc)⟩ := by kernel_rfl
@[simp] theorem tyT115 : tyT 115 = some ⟨1, 8, .other, .pv false (.sc .nilFunc)⟩ := by kernel_rfl
@[simp] theorem tyT116 : tyT 116 = some ⟨1, 8, .other, .pv false (.sc .nilFunc)⟩ := by kernel_rfl
@[simp] theorem tyT117 : tyT 117 = some ⟨1, 8, .other, .pv false (.sc .nilFunc)⟩ := by kernel_rfl
@[simp] theorem tyT118 : tyT 118 = some ⟨1, 8, .other, .pv false (.sc .nilFunc)⟩ := by kernel_rfl
@[simp] theorem tyT120 : tyT 120 = some ⟨1, 8, .other, .pv false (.sc .nilFunc)⟩ := by kernel_rfl
@[simp] theorem tyT121 : tyT 121 = some ⟨1, 8, .other, .pv false (.sc .nilFunc)⟩ := by kernel_rfl
@[simp] theorem tyT122 : tyT 122 = some ⟨1, 8, .other, .pv false (.sc .nilFunc)⟩ := by kernel_rfl
@[simp] theorem tyT123 : tyT 123 = some ⟨1, 8, .other, .pv false (.sc .nilFunc)⟩ := by kernel_rfl
@[simp] theorem tyT124 : tyT 124 = some ⟨1, 8, .other, .pv false (.sc .nilFunc)⟩ := by kernel_rfl
@[simp] theorem tyT126 : tyT 126 = some ⟨1, 8, .other, .pv false (.sc .nilFunc)⟩ := by kernel_rfl
@[simp] theorem tyT127 : tyT 127 = some ⟨1, 8, .other, .pv false (.sc .nilFunc)⟩ := by kernel_rfl
@[simp] theorem tyT128 : tyT 128 = some ⟨1, 8, .other, .pv false (.sc .nilFunc)⟩ := by kernel_rfl
@[simp] theorem tyT129 : tyT 129 = some ⟨1, 8, .other, .pv false (.sc .nilFunc)⟩ := by kernel_rfl
@[simp] theorem tyT130 : tyT 130 = some ⟨1, 8, .other, .pv false (.sc .nilFunc)⟩ := by kernel_rfl
@[simp] theorem tyT131 : tyT 131 = some ⟨1, 8, .other, .pv false (.sc .nilFunc)⟩ := by kernel_rfl
@[simp] theorem tyT132 : tyT 132 = some ⟨25, 440, .struct [(0, 54), (5, 54), (10, 54), (15, 54), (20, 54)], .ag [.pv false (.sc (.int .i64 0)), .pv false (.sc (.int .i64 0)), .nl, .nl, .nl, .pv false (.sc (.int .i64 0)), .pv false (.sc (.int .i64 0)), .nl, .nl, .nl, .pv false (.sc (.int .i64 0)), .pv false (.sc (.int .i64 0)), .nl, .nl, .nl, .pv false (.sc (.int .i64 0)), .pv false (.sc (.int .i64 0)), .nl, .nl, .nl, .pv false (.sc (.int .i64 0)), .pv false (.sc (.int .i64 0)), .nl, .nl, .nl]⟩ := by kernel_rfl
@[simp] theorem tyT133 : tyT 133 = some ⟨25, 440, .struct [(0, 54), (5, 54), (10, 54), (15, 54), (20, 54)], .ag [.pv false (.sc (.int .i64 0)), .pv false (.sc (.int .i64 0)), .nl, .nl, .nl, .pv false (.sc (.int .i64 0)), .pv false (.sc (.int .i64 0)), .nl, .nl, .nl, .pv false (.sc (.int .i64 0)), .pv false (.sc (.int .i64 0)), .nl, .nl, .nl, .pv false (.sc (.int .i64 0)), .pv false (.sc (.int .i64 0)), .nl, .nl, .nl, .pv false (.sc (.int .i64 0)), .pv false (.sc (.int .i64 0)), .nl, .nl, .nl]⟩ := by kernel_rfl
@[simp] theorem tyT134 : tyT 134 = some ⟨1, 8, .other, .pv false (.sc .nilFunc)⟩ := by kernel_rfl
@[simp] theorem tyT135 : tyT 135 = some ⟨1, 8, .other, .pv false (.sc .nilFunc)⟩ := by kernel_rfl
@[simp] theorem tyT136 : tyT 136 = some ⟨1, 8, .other, .pv false (.sc .nilFunc)⟩ := by kernel_rfl
@[simp] theorem tyT137 : tyT 137 = some ⟨1, 8, .other, .pv false (.sc .nilFunc)⟩ := by kernel_rfl
@[simp] theorem tyT138 : tyT 138 = some ⟨1, 8, .other, .pv false (.sc .nilFunc)⟩ := by kernel_rfl
@[simp] theorem tyT140 : tyT 140 = some ⟨1, 8, .other, .pv false (.sc .nilFunc)⟩ := by kernel_rfl
@[simp] theorem tyT141 : tyT 141 = some ⟨1, 8, .other, .pv false (.sc .nilFunc)⟩ := by kernel_rfl
@[simp] theorem tyT142 : tyT 142 = some ⟨1, 8, .ptr 147, .pv false (.sc (.pointer none))⟩ := by kernel_rfl
@[simp] theorem tyT144 : tyT 144 = some ⟨1, 8, .other, .pv false (.sc .nilFunc)⟩ := by kernel_rfl
@[simp] theorem tyT145 : tyT 145 = some ⟨1, 24, .slice 197, .nl⟩ := by kernel_rfl
@[simp] theorem tyT146 : tyT 146 = some ⟨5, 56, .struct [(0, 145), (1, 3), (2, 3), (3, 3), (4, 3)], .ag [.nl, .pv false (.sc (.int .i64 0)), .pv false (.sc (.int .i64 0)), .pv false (.sc (.int .i64 0)), .pv false (.sc (.int .i64 0))]⟩ := by kernel_rfl
@[simp] theorem tyT147 : tyT 147 = some ⟨5, 56, .struct [(0, 145), (1, 3), (2, 3), (3, 3), (4, 3)], .ag [.nl, .pv false (.sc (.int .i64 0)), .pv false (.sc (.int .i64 0)), .pv false (.sc (.int .i64 0)), .pv false (.sc (.int .i64 0))]⟩ := by kernel_rfl
@[simp] theorem tyT148 : tyT 148 = some ⟨1, 8, .other, .pv false (.sc .nilFunc)⟩ := by kernel_rfl
@[simp] theorem tyT149 : tyT 149 = some ⟨1, 8, .other, .pv false (.sc .nilFunc)⟩ := by kernel_rfl
@[simp] theorem tyT150 : tyT 150 = some ⟨1, 8, .other, .pv false (.sc .nilFunc)⟩ := by kernel_rfl
@[simp] theorem tyT151 : tyT 151 = some ⟨1, 8, .other, .pv false (.sc .nilFunc)⟩ := by kernel_rfl
@[simp] theorem tyT152 : tyT 152 = some ⟨1, 8, .other, .pv false (.sc .nilFunc)⟩ := by kernel_rfl
@[simp] theorem tyT153 : tyT 153 = some ⟨1, 8, .int .u64, .pv false (.sc (.int .u64 0))⟩ := by kernel_rfl
@[simp] theorem tyT154 : tyT 154 = some ⟨1, 8, .other, .pv false (.sc .nilFunc)⟩ := by kernel_rfl
@[simp] theorem tyT155 : tyT 155 = some ⟨1, 8, .other, .pv false (.sc .nilFunc)⟩ := by kernel_rfl
@[simp] theorem tyT156 : tyT 156 = some ⟨1, 8, .other, .pv false (.sc .nilFunc)⟩ := by kernel_rfl
@[simp] theorem tyT157 : tyT 157 = some ⟨1, 8, .other, .pv false (.sc .nilFunc)⟩ := by kernel_rfl
@[simp] theorem tyT158 : tyT 158 = some ⟨1, 8, .other, .pv false (.sc .nilFunc)⟩ := by kernel_rfl
@[simp] theorem tyT159 : tyT 159 = some ⟨1, 8, .other, .pv false (.sc .nilFunc)⟩ := by kernel_rfl
@[simp] theorem tyT161 : tyT 161 = some ⟨1, 8, .other, .pv false (.sc .nilFunc)⟩ := by kernel_rfl
@[simp] theorem tyT162 : tyT 162 = some ⟨1, 8, .other, .pv false (.sc .nilFunc)⟩ := by kernel_rfl
@[simp] theorem tyT164 : tyT 164 = some ⟨1, 8, .other, .pv false (.sc .nilFunc)⟩ := by kernel_rfl
@[simp] theorem tyT165 : tyT 165 = some ⟨1, 8, .other, .pv false (.sc .nilFunc)⟩ := by kernel_rfl
@[simp] theorem tyT166 : tyT 166 = some ⟨1, 8, .other, .pv false (.sc .nilFunc)⟩ := by kernel_rfl
@[simp] theorem tyT167 : tyT 167 = some ⟨1, 8, .other, .pv false (.sc .nilFunc)⟩ := by kernel_rfl
@[simp] theorem tyT168 : tyT 168 = some ⟨1, 24, .slice 4, .nl⟩ := by kernel_rfl
@[simp] theorem tyT169 : tyT 169 = some ⟨1, 8, .other, .pv false (.sc .nilFunc)⟩ := by kernel_rfl
@[simp] theorem tyT170 : tyT 170 = some ⟨1, 8, .other, .pv false (.sc .nilFunc)⟩ := by kernel_rfl
@[simp] theorem tyT171 : tyT 171 = some ⟨1, 8, .other, .pv false (.sc .nilFunc)⟩ := by kernel_rfl
@[simp] theorem tyT172 : tyT 172 = some ⟨1, 8, .other, .pv false (.sc .nilFunc)⟩ := by kernel_rfl
@[simp] theorem tyT173 : tyT 173 = some ⟨1, 8, .other, .pv false (.sc .nilFunc)⟩ := by kernel_rfl
@[simp] theorem tyT174 : tyT 174 = some ⟨1, 8, .other, .pv false (.sc .nilFunc)⟩ := by kernel_rfl
@[simp] theorem tyT175 : tyT 175 = some ⟨1, 8, .other, .pv false (.sc .nilFunc)⟩ := by kernel_rfl
@[simp] theorem tyT176 : tyT 176 = some ⟨1, 8, .other, .pv false (.sc .nilFunc)⟩ := by kernel_rfl
@[simp] theorem tyT177 : tyT 177 = some ⟨1, 8, .other, .pv false (.sc .nilFunc)⟩ := by kernel_rfl
@[simp] theorem tyT178 : tyT 178 = some ⟨1, 8, .other, .pv false (.sc .nilFunc)⟩ := by kernel_rfl
@[simp] theorem tyT179 : tyT 179 = some ⟨1, 8, .other, .pv false (.sc .nilFunc)⟩ := by kernel_rfl
@[simp] theorem tyT180 : tyT 180 = some ⟨1, 8, .other, .pv false (.sc .nilFunc)⟩ := by kernel_rfl
@[simp] theorem tyT181 : tyT 181 = some ⟨1, 8, .other, .pv false (.sc .nilFunc)⟩ := by kernel_rfl
@[simp] theorem tyT182 : tyT 182 = some ⟨1, 8, .other, .pv false (.sc .nilFunc)⟩ := by kernel_rfl
@[simp] theorem tyT183 : tyT 183 = some ⟨1, 8, .other, .pv false (.sc .nilFunc)⟩ := by kernel_rfl
@[simp] theorem tyT184 : tyT 184 = some ⟨1, 8, .other, .pv false (.sc .nilFunc)⟩ := by kernel_rfl
@[simp] theorem tyT185 : tyT 185 = some ⟨1, 8, .other, .pv false (.sc .nilFunc)⟩ := by kernel_rfl
@[simp] theorem tyT186 : tyT 186 = some ⟨1, 8, .other, .pv false (.sc .nilFunc)⟩ := by kernel_rfl
@[simp] theorem tyT187 : tyT 187 = some ⟨1, 8, .other, .pv false (.sc .nilFunc)⟩ := by kernel_rfl
@[simp] theorem tyT190 : tyT 190 = some ⟨1, 8, .other, .pv false (.sc .nilFunc)⟩ := by kernel_rfl
@[simp] theorem tyT191 : tyT 191 = some ⟨1, 8, .other, .pv false (.sc .nilFunc)⟩ := by kernel_rfl
@[simp] theorem tyT192 : tyT 192 = some ⟨1, 8, .other, .pv false (.sc .nilFunc)⟩ := by kernel_rfl
@[simp] theorem tyT193 : tyT 193 = some ⟨1, 8, .other, .pv false (.sc .nilFunc)⟩ := by kernel_rfl
@[simp] theorem tyT194 : tyT 194 = some ⟨1, 8, .other, .pv false (.sc .nilFunc)⟩ := by kernel_rfl
@[simp] theorem tyT195 : tyT 195 = some ⟨1, 8, .other, .pv false (.sc .nilFunc)⟩ := by kernel_rfl
@[simp] theorem tyT196 : tyT 196 = some ⟨4, 48, .struct [(0, 3), (1, 3), (2, 3), (3, 22)], .ag [.pv false (.sc (.int .i64 0)), .pv false (.sc (.int .i64 0)), .pv false (.sc (.int .i64 0)), .nl]⟩ := by kernel_rfl
@[simp] theorem tyT197 : tyT 197 = some ⟨4, 48, .struct [(0, 3), (1, 3), (2, 3), (3, 22)], .ag [.pv false (.sc (.int .i64 0)), .pv false (.sc (.int .i64 0)), .pv false (.sc (.int .i64 0)), .nl]⟩ := by kernel_rfl
@[simp] theorem tyT198 : tyT 198 = some ⟨1, 8, .other, .pv false (.sc .nilFunc)⟩ := by kernel_rfl
@[simp] theorem tyT199 : tyT 199 = some ⟨1, 8, .other, .pv false (.sc .nilFunc)⟩ := by kernel_rfl
@[simp] theorem tyT200 : tyT 200 = some ⟨1, 8, .other, .pv false (.sc .nilFunc)⟩ := by kernel_rfl
@[simp] theorem tyT201 : tyT 201 = some ⟨1, 8, .other, .pv false (.sc .nilFunc)⟩ := by kernel_rfl
@[simp] theorem tyT202 : tyT 202 = some ⟨1, 8, .other, .pv false (.sc .nilFunc)⟩ := by kernel_rfl
@[simp] theorem tyT203 : tyT 203 = some ⟨1, 24, .slice 9, .nl⟩ := by kernel_rfl
@[simp] theorem tyT204 : tyT 204 = some ⟨1, 8, .other, .pv false (.sc .nilFunc)⟩ := by kernel_rfl
@[simp] theorem tyT205 : tyT 205 = some ⟨1, 8, .other, .pv false (.sc .nilFunc)⟩ := by kernel_rfl
@[simp] theorem tyT206 : tyT 206 = some ⟨1, 8, .other, .pv false (.sc .nilFunc)⟩ := by kernel_rfl
@[simp] theorem tyT208 : tyT 208 = some ⟨1, 8, .other, .pv false (.sc .nilFunc)⟩ := by kernel_rfl
@[simp] theorem tyT210 : tyT 210 = some ⟨1, 8, .other, .pv false (.sc .nilFunc)⟩ := by kernel_rfl
@[simp] theorem tyT211 : tyT 211 = some ⟨1, 16, .ifc, .pv false (.sc .nilIface)⟩ := by kernel_rfl
@[simp] theorem tyT212 : tyT 212 = some ⟨1, 16, .ifc, .pv false (.sc .nilIface)⟩ := by kernel_rfl
@[simp] theorem tyT214 : tyT 214 = some ⟨1, 8, .other, .pv false (.sc .nilFunc)⟩ := by kernel_rfl
@[simp] theorem tyT215 : tyT 215 = some ⟨1, 8, .other, .pv false (.sc .nilFunc)⟩ := by kernel_rfl
@[simp] theorem tyT216 : tyT 216 = some ⟨1, 8, .other, .pv false (.sc .nilFunc)⟩ := by kernel_rfl
@[simp] theorem tyT217 : tyT 217 = some ⟨1, 8, .other, .pv false (.sc .nilFunc)⟩ := by kernel_rfl
@[simp] theorem tyT218 : tyT 218 = some ⟨1, 8, .other, .pv false (.sc .nilFunc)⟩ := by kernel_rfl
@[simp] theorem tyT219 : tyT 219 = some ⟨1, 8, .other, .pv false (.sc .nilFunc)⟩ := by kernel_rfl
@[simp] theorem tyT220 : tyT 220 = some ⟨1, 8, .other, .pv false (.sc .nilFunc)⟩ := by kernel_rfl
@[simp] theorem tyT221 : tyT 221 = some ⟨1, 8, .other, .pv false (.sc .nilFunc)⟩ := by kernel_rfl
@[simp] theorem tyT222 : tyT 222 = some ⟨1, 8, .other, .pv false (.sc .nilFunc)⟩ := by kernel_rfl
@[simp] theorem tyT223 : tyT 223 = some ⟨1, 8, .other, .pv false (.sc .nilFunc)⟩ := by kernel_rfl
@[simp] theorem tyT224 : tyT 224 = some ⟨1, 8, .other, .pv false (.sc .nilFunc)⟩ := by kernel_rfl
@[simp] theorem tyT225 : tyT 225 = some ⟨1, 8, .other, .pv false (.sc .nilFunc)⟩ := by kernel_rfl
@[simp] theorem tyT226 : tyT 226 = some ⟨1, 8, .other, .pv false (.sc .nilFunc)⟩ := by kernel_rfl
@[simp] theorem tyT227 : tyT 227 = some ⟨1, 8, .other, .pv false (.sc .nilFunc)⟩ := by kernel_rfl
@[simp] theorem tyT228 : tyT 228 = some ⟨1, 8, .other, .pv false (.sc .nilFunc)⟩ := by kernel_rfl
@[simp] theorem tyT229 : tyT 229 = some ⟨1, 8, .other, .pv false (.sc .nilFunc)⟩ := by kernel_rfl
@[simp] theorem tyT230 : tyT 230 = some ⟨1, 8, .other, .pv false (.sc .nilFunc)⟩ := by kernel_rfl
@[simp] theorem tyT231 : tyT 231 = some ⟨1, 8, .other, .pv false (.sc .nilFunc)⟩ := by kernel_rfl
@[simp] theorem tyT232 : tyT 232 = some ⟨1, 8, .ptr 41, .pv false (.sc (.pointer none))⟩ := by kernel_rfl
@[simp] theorem tyT233 : tyT 233 = some ⟨1, 24, .slice 26, .nl⟩ := by kernel_rfl
@[simp] theorem tyT234 : tyT 234 = some ⟨1, 8, .other, .pv false (.sc .nilFunc)⟩ := by kernel_rfl
@[simp] theorem tyT235 : tyT 235 = some ⟨1, 8, .other, .pv false (.sc .nilFunc)⟩ := by kernel_rfl
@[simp] theorem tyT236 : tyT 236 = some ⟨1, 8, .other, .pv false (.sc .nilFunc)⟩ := by kernel_rfl
@[simp] theorem tyT237 : tyT 237 = some ⟨1, 8, .other, .pv false (.sc .nilFunc)⟩ := by kernel_rfl
@[simp] theorem tyT238 : tyT 238 = some ⟨1, 8, .other, .pv false (.sc .nilFunc)⟩ := by kernel_rfl
@[simp] theorem tyT239 : tyT 239 = some ⟨1, 8, .other, .pv false (.sc .nilFunc)⟩ := by kernel_rfl
@[simp] theorem tyT240 : tyT 240 = some ⟨1, 8, .other, .pv false (.sc .nilFunc)⟩ := by kernel_rfl
@[simp] theorem tyT241 : tyT 241 = some ⟨1, 8, .other, .pv false (.sc .nilFunc)⟩ := by kernel_rfl
@[simp] theorem tyT243 : tyT 243 = some ⟨1, 8, .other, .pv false (.sc .nilFunc)⟩ := by kernel_rfl
@[simp] theorem tyT244 : tyT 244 = some ⟨1, 8, .other, .pv false (.sc .nilFunc)⟩ := by kernel_rfl
@[simp] theorem tyT245 : tyT 245 = some ⟨1, 8, .other, .pv false (.sc .nilFunc)⟩ := by kernel_rfl
@[simp] theorem tyT246 : tyT 246 = some ⟨1, 8, .other, .pv false (.sc .nilFunc)⟩ := by kernel_rfl
@[simp] theorem tyT247 : tyT 247 = some ⟨1, 8, .other, .pv false (.sc .nilFunc)⟩ := by kernel_rfl
@[simp] theorem tyT248 : tyT 248 = some ⟨1, 8, .other, .pv false (.sc .nilFunc)⟩ := by kernel_rfl
@[simp] theorem tyT249 : tyT 249 = some ⟨1, 8, .other, .pv false (.sc .nilFunc)⟩ := by kernel_rfl
@[simp] theorem tyT250 : tyT 250 = some ⟨1, 8, .other, .pv false (.sc .nilFunc)⟩ := by kernel_rfl
@[simp] theorem tyT251 : tyT 251 = some ⟨1, 8, .int .i64, .pv false (.sc (.int .i64 0))⟩ := by kernel_rfl
@[simp] theorem tyT253 : tyT 253 = some ⟨1, 8, .other, .pv false (.sc .nilFunc)⟩ := by kernel_rfl
@[simp] theorem tyT254 : tyT 254 = some ⟨1, 8, .other, .pv false (.sc .nilFunc)⟩ := by kernel_rfl
@[simp] theorem tyT255 : tyT 255 = some ⟨1, 8, .other, .pv false (.sc .nilFunc)⟩ := by kernel_rfl
@[simp] theorem tyT256 : tyT 256 = some ⟨1, 8, .other, .pv false (.sc .nilFunc)⟩ := by kernel_rfl
@[simp] theorem tyT257 : tyT 257 = some ⟨1, 8, .other, .pv false (.sc .nilFunc)⟩ := by kernel_rfl
@[simp] theorem tyT258 : tyT 258 = some ⟨1, 4, .int .u32, .pv false (.sc (.int .u32 0))⟩ := by kernel_rfl
@[simp] theorem tyT259 : tyT 259 = some ⟨1, 8, .other, .pv false (.sc .nilFunc)⟩ := by kernel_rfl
@[simp] theorem tyT260 : tyT 260 = some ⟨1, 8, .int .u64, .pv false (.sc (.int .u64 0))⟩ := by kernel_rfl
@[simp] theorem tyT261 : tyT 261 = some ⟨1, 8, .other, .pv false (.sc .nilFunc)⟩ := by kernel_rfl
@[simp] theorem tyT262 : tyT 262 = some ⟨1, 8, .other, .pv false (.sc (.map none))⟩ := by kernel_rfl
@[simp] theorem tyT263 : tyT 263 = some ⟨1, 8, .other, .pv false (.sc .nilFunc)⟩ := by kernel_rfl
@[simp] theorem tyT264 : tyT 264 = some ⟨1, 8, .other, .pv false (.sc .nilFunc)⟩ := by kernel_rfl
@[simp] theorem tyT265 : tyT 265 = some ⟨1, 8, .other, .pv false (.sc .nilFunc)⟩ := by kernel_rfl
@[simp] theorem tyT266 : tyT 266 = some ⟨1, 8, .other, .pv false (.sc .nilFunc)⟩ := by kernel_rfl
@[simp] theorem tyT267 : tyT 267 = some ⟨1, 8, .int .i64, .pv false (.sc (.int .i64 0))⟩ := by kernel_rfl
@[simp] theorem tyT269 : tyT 269 = some ⟨1, 8, .other, .pv false (.sc .nilFunc)⟩ := by kernel_rfl
@[simp] theorem tyT270 : tyT 270 = some ⟨1, 8, .ptr 290, .pv false (.sc (.pointer none))⟩ := by kernel_rfl
@[simp] theorem tyT271 : tyT 271 = some ⟨1, 8, .other, .pv false (.sc .nilFunc)⟩ := by kernel_rfl
@[simp] theorem tyT272 : tyT 272 = some ⟨1, 8, .other, .pv false (.sc .nilFunc)⟩ := by kernel_rfl
@[simp] theorem tyT273 : tyT 273 = some ⟨1, 8, .other, .pv false (.sc .nilFunc)⟩ := by kernel_rfl
@[simp] theorem tyT274 : tyT 274 = some ⟨1, 8, .int .u64, .pv false (.sc (.int .u64 0))⟩ := by kernel_rfl
@[simp] theorem tyT275 : tyT 275 = some ⟨1, 8, .other, .pv false (.sc .nilFunc)⟩ := by kernel_rfl
@[simp] theorem tyT276 : tyT 276 = some ⟨1, 8, .other, .pv false (.sc .nilFunc)⟩ := by kernel_rfl
@[simp] theorem tyT277 : tyT 277 = some ⟨1, 8, .other, .pv false (.sc .nilFunc)⟩ := by kernel_rfl
@[simp] theorem tyT278 : tyT 278 = some ⟨1, 8, .ptr 3, .pv false (.sc (.pointer none))⟩ := by kernel_rfl
@[simp] theorem tyT279 : tyT 279 = some ⟨1, 8, .other, .pv false (.sc .nilFunc)⟩ := by kernel_rfl
@[simp] theorem tyT280 : tyT 280 = some ⟨1, 8, .other, .pv false (.sc .nilFunc)⟩ := by kernel_rfl
@[simp] theorem tyT281 : tyT 281 = some ⟨1, 8, .other, .pv false (.sc .nilFunc)⟩ := by kernel_rfl
@[simp] theorem tyT282 : tyT 282 = some ⟨1, 8, .other, .pv false (.sc .nilFunc)⟩ := by kernel_rfl
@[simp] theorem tyT283 : tyT 283 = some ⟨1, 8, .other, .pv false (.sc .nilFunc)⟩ := by kernel_rfl
@[simp] theorem tyT285 : tyT 285 = some ⟨1, 8, .other, .pv false (.sc .nilFunc)⟩ := by kernel_rfl
@[simp] theorem tyT287 : tyT 287 = some ⟨1, 8, .other, .pv false (.sc .nilFunc)⟩ := by kernel_rfl
@[simp] theorem tyT288 : tyT 288 = some ⟨1, 8, .other, .pv false (.sc .nilFunc)⟩ := by kernel_rfl
@[simp] theorem tyT289 : tyT 289 = some ⟨3, 48, .struct [(0, 9), (1, 9), (2, 212)], .ag [.pv false (.sc (.string ⟨#[]⟩)), .pv false (.sc (.string ⟨#[]⟩)), .pv false (.sc .nilIface)]⟩ := by kernel_rfl
@[simp] theorem tyT290 : tyT 290 = some ⟨3, 48, .struct [(0, 9), (1, 9), (2, 212)], .ag [.pv false (.sc (.string ⟨#[]⟩)), .pv false (.sc (.string ⟨#[]⟩)), .pv false (.sc .nilIface)]⟩ := by kernel_rfl
@[simp] theorem tyT291 : tyT 291 = some ⟨1, 8, .other, .pv false (.sc .nilFunc)⟩ := by kernel_rfl
@[simp] theorem tyT292 : tyT 292 = some ⟨24, 24, .arr 24 5, .ar (List.replicate 24 (.sc (.int .u8 0)))⟩ := by kernel_rfl
@[simp] theorem tyT293 : tyT 293 = some ⟨1, 8, .other, .pv false (.sc .nilFunc)⟩ := by kernel_rfl
@[simp] theorem tyT295 : tyT 295 = some ⟨1, 8, .other, .pv false (.sc .nilFunc)⟩ := by kernel_rfl
@[simp] theorem tyT296 : tyT 296 = some ⟨1, 8, .other, .pv false (.sc .nilFunc)⟩ := by kernel_rfl
@[simp] theorem tyT297 : tyT 297 = some ⟨1, 8, .ptr 274, .pv false (.sc (.pointer none))⟩ := by kernel_rfl
@[simp] theorem tyT299 : tyT 299 = some ⟨1, 8, .other, .pv false (.sc .nilFunc)⟩ := by kernel_rfl
@[simp] theorem tyT300 : tyT 300 = some ⟨1, 8, .other, .pv false (.sc .nilFunc)⟩ := by kernel_rfl
@[simp] theorem tyT301 : tyT 301 = some ⟨1, 8, .other, .pv false (.sc .nilFunc)⟩ := by kernel_rfl
@[simp] theorem tyT302 : tyT 302 = some ⟨1, 8, .ptr 5, .pv false (.sc (.pointer none))⟩ := by kernel_rfl
@[simp] theorem tyT303 : tyT 303 = some ⟨1, 8, .ptr 305, .pv false (.sc (.pointer none))⟩ := by kernel_rfl
@[simp] theorem tyT304 : tyT 304 = some ⟨1, 16, .struct [(0, 9)], .ag [.pv false (.sc (.string ⟨#[]⟩))]⟩ := by kernel_rfl
@[simp] theorem tyT305 : tyT 305 = some ⟨1, 16, .struct [(0, 9)], .ag [.pv false (.sc (.string ⟨#[]⟩))]⟩ := by kernel_rfl
@[simp] theorem tyT306 : tyT 306 = some ⟨1, 8, .other, .pv false (.sc .nilFunc)⟩ := by kernel_rfl
@[simp] theorem tyT307 : tyT 307 = some ⟨20, 160, .arr 20 260, .ar (List.replicate 20 (.sc (.int .u64 0)))⟩ := by kernel_rfl
@[simp] theorem tyT308 : tyT 308 = some ⟨65, 65, .arr 65 5, .ar (List.replicate 65 (.sc (.int .u8 0)))⟩ := by kernel_rfl
@[simp] theorem tyT309 : tyT 309 = some ⟨1, 8, .other, .pv false (.sc .nilFunc)⟩ := by kernel_rfl
@[simp] theorem tyT310 : tyT 310 = some ⟨32, 32, .arr 32 5, .ar (List.replicate 32 (.sc (.int .u8 0)))⟩ := by kernel_rfl
@[simp] theorem tyT311 : tyT 311 = some ⟨64, 64, .arr 64 5, .ar (List.replicate 64 (.sc (.int .u8 0)))⟩ := by kernel_rfl
@[simp] theorem tyT312 : tyT 312 = some ⟨1, 8, .other, .pv false (.sc .nilFunc)⟩ := by kernel_rfl
@[simp] theorem tyT313 : tyT 313 = some ⟨4, 40, .struct [(0, 17), (1, 17), (2, 17), (3, 9)], .ag [.pv false (.sc (.pointer none)), .pv false (.sc (.pointer none)), .pv false (.sc (.pointer none)), .pv false (.sc (.string ⟨#[]⟩))]⟩ := by kernel_rfl
@[simp] theorem tyT314 : tyT 314 = some ⟨4, 40, .struct [(0, 17), (1, 17), (2, 17), (3, 9)], .ag [.pv false (.sc (.pointer none)), .pv false (.sc (.pointer none)), .pv false (.sc (.pointer none)), .pv false (.sc (.string ⟨#[]⟩))]⟩ := by kernel_rfl
@[simp] theorem tyT315 : tyT 315 = some ⟨0, 0, .arr 0 16, .ar []⟩ := by kernel_rfl
@[simp] theorem tyT318 : tyT 318 = some ⟨1, 1, .int .u8, .pv false (.sc (.int .u8 0))⟩ := by kernel_rfl
@[simp] theorem tyT319 : tyT 319 = some ⟨1, 1, .int .u8, .pv false (.sc (.int .u8 0))⟩ := by kernel_rfl
@[simp] theorem tyT320 : tyT 320 = some ⟨1, 8, .other, .pv false (.sc .nilFunc)⟩ := by kernel_rfl
@[simp] theorem tyT321 : tyT 321 = some ⟨1, 4, .int .i32, .pv false (.sc (.int .i32 0))⟩ := by kernel_rfl
@[simp] theorem tyT322 : tyT 322 = some ⟨1, 4, .int .i32, .pv false (.sc (.int .i32 0))⟩ := by kernel_rfl
@[simp] theorem tyT323 : tyT 323 = some ⟨11, 48, .struct [(0, 12), (1, 12), (2, 258), (3, 318), (4, 5), (5, 5), (6, 319), (7, 320), (8, 302), (9, 321), (10, 322)], .ag [.pv false (.sc (.int .u64 0)), .pv false (.sc (.int .u64 0)), .pv false (.sc (.int .u32 0)), .pv false (.sc (.int .u8 0)), .pv false (.sc (.int .u8 0)), .pv false (.sc (.int .u8 0)), .pv false (.sc (.int .u8 0)), .pv false (.sc .nilFunc), .pv false (.sc (.pointer none)), .pv false (.sc (.int .i32 0)), .pv false (.sc (.int .i32 0))]⟩ := by kernel_rfl
@[simp] theorem tyT324 : tyT 324 = some ⟨11, 48, .struct [(0, 12), (1, 12), (2, 258), (3, 318), (4, 5), (5, 5), (6, 319), (7, 320), (8, 302), (9, 321), (10, 322)], .ag [.pv false (.sc (.int .u64 0)), .pv false (.sc (.int .u64 0)), .pv false (.sc (.int .u32 0)), .pv false (.sc (.int .u8 0)), .pv false (.sc (.int .u8 0)), .pv false (.sc (.int .u8 0)), .pv false (.sc (.int .u8 0)), .pv false (.sc .nilFunc), .pv false (.sc (.pointer none)), .pv false (.sc (.int .i32 0)), .pv false (.sc (.int .i32 0))]⟩ := by kernel_rfl
@[simp] theorem tyT325 : tyT 325 = some ⟨1, 8, .other, .pv false (.sc .nilFunc)⟩ := by kernel_rfl
@[simp] theorem tyT326 : tyT 326 = some ⟨1, 8, .other, .pv false (.sc (.pointer none))⟩ := by kernel_rfl
@[simp] theorem tyT327 : tyT 327 = some ⟨2, 32, .struct [(0, 70), (1, 3)], .ag [.nl, .pv false (.sc (.int .i64 0))]⟩ := by kernel_rfl
@[simp] theorem tyT328 : tyT 328 = some ⟨2, 32, .struct [(0, 70), (1, 3)], .ag [.nl, .pv false (.sc (.int .i64 0))]⟩ := by kernel_rfl
@[simp] theorem sg3 : sgOf 3 = ⟨[], .d, false⟩ := rfl
@[simp] theorem sg4 : sgOf 4 = ⟨[], .tu [.d, .d], false⟩ := rfl
@[simp] theorem sg5 : sgOf 5 = ⟨[], .tu [.ag [.d, .own 37 2], .d], false⟩ := rfl
@[simp] theorem sg7 : sgOf 7 = ⟨[], .tu [.own 3 1, .d], false⟩ := rfl
@[simp] theorem sg8 : sgOf 8 = ⟨[], .d, false⟩ := rfl
@[simp] theorem sg9 : sgOf 9 = ⟨[], .tu [.ag [.d, .own 37 2], .own 3 1], false⟩ := rfl
@[simp] theorem sg10 : sgOf 10 = ⟨[], .d, false⟩ := rfl
@[simp] theorem sg11 : sgOf 11 = ⟨[], .d, false⟩ := rfl
@[simp] theorem sg15 : sgOf 15 = ⟨[], .tu [.own 3 1, .d], false⟩ := rfl
@[simp] theorem sg16 : sgOf 16 = ⟨[], .any, false⟩ := rfl
@[simp] theorem sg17 : sgOf 17 = ⟨[true], .ag [.d, .own 37 2], false⟩ := rfl
@[simp] theorem sg18 : sgOf 18 = ⟨[true], .d, false⟩ := rfl
@[simp] theorem sg19 : sgOf 19 = ⟨[true], .d, false⟩ := rfl
@[simp] theorem sg20 : sgOf 20 = ⟨[], .d, false⟩ := rfl
@[simp] theorem sg21 : sgOf 21 = ⟨[], .d, false⟩ := rfl
@[simp] theorem sg22 : sgOf 22 = ⟨[], .d, false⟩ := rfl
@[simp] theorem sg25 : sgOf 25 = ⟨[], .d, false⟩ := rfl
@[simp] theorem sg40 : sgOf 40 = ⟨[], .d, false⟩ := rfl
@[simp] theorem sg41 : sgOf 41 = ⟨[], .d, false⟩ := rfl
@[simp] theorem sg42 : sgOf 42 = ⟨[true], .ag [.d, .own 37 2], false⟩ := rfl
@[simp] theorem sg43 : sgOf 43 = ⟨[true], .d, false⟩ := rfl
@[simp] theorem sg44 : sgOf 44 = ⟨[true], .d, false⟩ := rfl
@[simp] theorem sg45 : sgOf 45 = ⟨[], .d, false⟩ := rfl
@[simp] theorem sg46 : sgOf 46 = ⟨[], .d, false⟩ := rfl
@[simp] theorem sg51 : sgOf 51 = ⟨[], .d, false⟩ := rfl
@[simp] theorem sg52 : sgOf 52 = ⟨[], .d, false⟩ := rfl
@[simp] theorem sg82 : sgOf 82 = ⟨[], .d, false⟩ := rfl
@[simp] theorem sg83 : sgOf 83 = ⟨[true, false], .own 37 2, false⟩ := rfl
@[simp] theorem sg84 : sgOf 84 = ⟨[], .d, false⟩ := rfl
@[simp] theorem sg93 : sgOf 93 = ⟨[], .d, false⟩ := rfl
@[simp] theorem sg143 : sgOf 143 = ⟨[], .d, false⟩ := rfl
theorem mixed : Tryz.prog.follows .mixedOrders = true := by kernel_rfl
theorem names_ok : (Tryz.prog.funcs.all fun fn => !(fn.name == "runtime.NumGoroutine")) = true := by kernel_rfl
theorem dsts_ok : (Tryz.prog.funcs.all fun fn => match fn.body with | some c => codeOk fn.ntmps c | none => true) = true := by kernel_rfl
theorem plan3_1 : plan bs0 ((opsOf 1 (code Tryz.f3)).getD #[]) = some (.lt 0 (.hv 1 [] (.lt 2 (.lt 3 (.lt 4 (.hv 5 [4, 3, 2, 0] (.hv 6 [4] (.lt 7 (.fin)) (.no)) (.no))))) (.hv 5 [0] (.hv 1 [] (.lt 2 (.lt 3 (.lt 4 (.hv 6 [4] (.lt 7 (.fin)) (.no))))) (.no)) (.no)))) := by kernel_rfl
theorem plan3_2 : plan bs0 ((opsOf 2 (code Tryz.f3)).getD #[]) = some (.lt 0 (.lt 1 (.hv 2 [] (.lt 3 (.lt 4 (.lt 5 (.hv 6 [5, 4, 3, 1, 0] (.hv 7 [5] (.lt 8 (.fin)) (.no)) (.no))))) (.hv 6 [1, 0] (.hv 2 [] (.lt 3 (.lt 4 (.lt 5 (.hv 7 [5] (.lt 8 (.fin)) (.no))))) (.no)) (.no))))) := by kernel_rfl
theorem plan3_5 : plan bs0 ((opsOf 5 (code Tryz.f3)).getD #[]) = some (.lt 0 (.hv 1 [] (.lt 2 (.lt 3 (.lt 4 (.lt 5 (.lt 6 (.fin)))))) (.no))) := by kernel_rfl
theorem plan3_6 : plan bs0 ((opsOf 6 (code Tryz.f3)).getD #[]) = some (.lt 0 (.hv 1 [] (.lt 2 (.lt 3 (.lt 4 (.lt 5 (.lt 6 (.fin)))))) (.no))) := by kernel_rfl
theorem plan3_7 : plan bs0 ((opsOf 7 (code Tryz.f3)).getD #[]) = some (.lt 0 (.lt 1 (.hv 2 [] (.lt 3 (.lt 4 (.lt 5 (.hv 6 [5, 4, 3, 1, 0] (.hv 7 [5] (.lt 8 (.fin)) (.no)) (.no))))) (.hv 6 [1, 0] (.hv 2 [] (.lt 3 (.lt 4 (.lt 5 (.hv 7 [5] (.lt 8 (.fin)) (.no))))) (.no)) (.no))))) := by kernel_rfl
theorem plan9_11 : plan bs0 ((opsOf 11 (code Tryz.f9)).getD #[]) = some (.lt 0 (.lt 1 (.hv 2 [1] (.lt 3 (.fin)) (.no)))) := by kernel_rfl
theorem plan10_4 : plan bs0 ((opsOf 4 (code Tryz.f10)).getD #[]) = some (.lt 0 (.lt 1 (.lt 2 (.lt 3 (.lt 4 (.hv 5 [] (.lt 6 (.lt 7 (.lt 8 (.lt 9 (.lt 10 (.lt 11 (.lt 12 (.hv 13 [] (.lt 14 (.lt 15 (.lt 16 (.lt 17 (.lt 18 (.lt 19 (.lt 20 (.lt 21 (.lt 22 (.lt 23 (.lt 24 (.lt 25 (.lt 26 (.hv 27 [3, 2, 0] (.lt 28 (.lt 29 (.lt 30 (.fin)))) (.no))))))))))))))) (.no))))))))) (.no))))))) := by kernel_rfl
theorem plan17_8 : plan bs0 ((opsOf 8 (code Tryz.f17)).getD #[]) = some (.lt 0 (.lt 1 (.lt 2 (.lt 4 (.hv 3 [4, 1, 0] (.hv 5 [1, 0] (.lt 6 (.hv 7 [1, 0] (.hv 8 [] (.lt 9 (.hv 10 [] (.fin) (.no))) (.no)) (.no))) (.no)) (.no)))))) := by kernel_rfl
theorem plan21_1 : plan bs0 ((opsOf 1 (code Tryz.f21)).getD #[]) = some (.lt 0 (.lt 1 (.lt 2 (.lt 3 (.lt 5 (.lt 6 (.lt 7 (.lt 8 (.hv 4 [8, 7, 6, 5] (.hv 9 [] (.hv 10 [] (.hv 11 [] (.lt 12 (.fin)) (.no)) (.no)) (.no)) (.no)))))))))) := by kernel_rfl
theorem plan42_6 : plan bs0 ((opsOf 6 (code Tryz.f42)).getD #[]) = some (.lt 0 (.lt 1 (.lt 2 (.lt 4 (.lt 5 (.lt 6 (.hv 3 [6, 5, 4] (.hv 7 [] (.lt 8 (.hv 9 [8, 6, 5, 4, 2, 1, 0] (.hv 10 [] (.fin) (.no)) (.no))) (.hv 9 [6, 5, 4, 2, 1, 0] (.hv 7 [] (.lt 8 (.hv 10 [] (.fin) (.no))) (.no)) (.no))) (.hv 9 [6, 5, 4, 2, 1, 0] (.hv 3 [6, 5, 4] (.hv 7 [] (.lt 8 (.hv 10 [] (.fin) (.no))) (.no)) (.no)) (.no))))))))) := by kernel_rfl
theorem plan44_2 : plan bs0 ((opsOf 2 (code Tryz.f44)).getD #[]) = some (.lt 0 (.lt 1 (.lt 2 (.lt 3 (.lt 4 (.lt 5 (.lt 6 (.lt 7 (.lt 8 (.lt 9 (.lt 10 (.lt 11 (.lt 12 (.fin)))))))))))))) := by kernel_rfl
theorem plan44_3 : plan bs0 ((opsOf 3 (code Tryz.f44)).getD #[]) = some (.lt 0 (.lt 1 (.lt 2 (.lt 3 (.lt 4 (.lt 5 (.lt 6 (.lt 7 (.lt 8 (.lt 9 (.fin))))))))))) := by kernel_rfl
theorem plan44_4 : plan bs0 ((opsOf 4 (code Tryz.f44)).getD #[]) = some (.lt 0 (.lt 1 (.lt 2 (.lt 3 (.lt 4 (.lt 5 (.lt 6 (.lt 7 (.lt 8 (.lt 9 (.lt 10 (.lt 11 (.lt 12 (.lt 13 (.lt 14 (.fin)))))))))))))))) := by kernel_rfl
theorem plan83_2 : plan bs0 ((opsOf 2 (code Tryz.f83)).getD #[]) = some (.lt 0 (.lt 1 (.lt 2 (.lt 3 (.lt 4 (.lt 5 (.lt 6 (.lt 7 (.lt 8 (.lt 9 (.hv 10 [] (.lt 11 (.fin)) (.no)))))))))))) := by kernel_rfl
theorem plan83_4 : plan bs0 ((opsOf 4 (code Tryz.f83)).getD #[]) = some (.lt 0 (.lt 1 (.lt 2 (.lt 3 (.lt 4 (.lt 5 (.lt 6 (.lt 7 (.lt 8 (.lt 9 (.lt 10 (.lt 11 (.fin))))))))))))) := by kernel_rfl
theorem gl5 : globs Tryz.f5 = [0, 1, 2, 16, 4, 24, 23, 25, 22, 8, 37, 6, 5] := by kernel_rfl
theorem gl9 : globs Tryz.f9 = [0, 4, 7, 8, 17, 5, 6, 29, 2, 3] := by kernel_rfl
theorem gl10 : globs Tryz.f10 = [0, 1, 8, 7, 9, 6, 4, 3, 43, 2] := by kernel_rfl
theorem gl15 : globs Tryz.f15 = [0, 1, 9, 5, 16, 6, 4, 31, 37, 2, 3] := by kernel_rfl
theorem gl16 : globs Tryz.f16 = [0, 4, 15, 3, 2] := by kernel_rfl
theorem gl22 : globs Tryz.f22 = [0, 8, 7, 9, 5, 1, 16, 4] := by kernel_rfl
theorem gl42 : globs Tryz.f42 = [0, 3, 4, 5, 19, 6, 40, 54, 2] := by kernel_rfl
theorem gl45 : globs Tryz.f45 = [0, 8, 7, 9, 6, 3, 5, 14, 2] := by kernel_rfl
theorem gl82 : globs Tryz.f82 = [0, 8, 7, 9, 5, 1, 16, 4] := by kernel_rfl
theorem gl83 : globs Tryz.f83 = [1, 3, 5, 0, 18, 32, 6, 4] := by kernel_rfl
theorem gl93 : globs Tryz.f93 = [0, 8, 7, 9, 5, 1, 16, 4] := by kernel_rfl
theorem funcs_all {f : Func → Bool} (h : Tryz.prog.funcs.all f = true) {i : Nat} {fn : Func} (hi : Tryz.prog.funcs[i]? = some fn) : f fn = true := Array.all_eq_true_iff_forall_mem.1 h fn (Array.mem_of_getElem? hi)
instance ddS : Dd := ⟨False⟩
theorem hasBody {fn : Func} (h : fn.body.isSome = true) : fn.body = some (code fn) := by
  unfold code
  cases hb : fn.body with
  | none => rw [hb] at h; cases h
  | some c => rfl
theorem call0 {g : FuncId} {gn : Func} {ts : List TV} {hp : Hp} {r : Option Res} (hg : Tryz.prog.funcs[g]? = some gn) (hb : gn.body.isSome = true) (h : lim C0 g gn [.c (code gn)] ⟨number ts 0, hp⟩ = r) (hx : isExt g = false := by rfl) : phi C0 (lim C0) g ts hp = r :=
  (phi_at (C := C0) (c := code gn) (ext0_none hx ts hp) hg (hasBody hb)).trans h
end Go.Proofs.YtmfnklfoocebhaaGreatDoor
