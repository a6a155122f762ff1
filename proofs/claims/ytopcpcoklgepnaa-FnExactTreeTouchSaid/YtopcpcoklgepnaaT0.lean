/- The functions' own places, as a program of mine reckoned them from their text; each contract checks its own anew. -/
import Derived.Test.YtopcpcoklgepnaaA14
import Derived.Test.YtopcpcoklgepnaaProg
import Derived.KernelRfl
import Derived.Lib.Bytealg
import Derived.Laws.Externs
namespace Go.Proofs.Ytopcpcoklgepnaa.AM
open Go Go.Proofs
set_option linter.unusedVariables false
def LTl : List (Nat × FInfo) := [(2, ⟨[], [], []⟩),
  (3, ⟨[1, 5], [1, 5], [0, 1, 2, 3, 4, 5, 6, 11, 21, 26]⟩),
  (4, ⟨[1, 5], [1, 5], [0, 1, 2, 3, 4, 5, 6, 7, 8, 9, 10, 15, 26, 31, 42, 50, 53, 60, 65, 68]⟩),
  (5, ⟨[2, 3, 7, 8], [2, 3, 7, 8], [0, 1, 2, 3, 4, 5, 6, 7, 8, 9, 14, 19, 34, 39, 44]⟩),
  (6, ⟨[2, 6, 7, 8, 12], [2, 6, 7, 8, 12], [0, 1, 2, 4, 5, 6, 7, 8, 9, 10, 11, 12, 17, 30, 35, 46, 54, 57, 65, 70, 73]⟩),
  (7, ⟨[1, 5], [1, 5], [0, 1, 2, 3, 4, 5, 6, 11, 21, 26]⟩),
  (8, ⟨[2, 3, 6, 8, 9, 10, 15], [2, 3, 6, 8, 9, 10, 15], [0, 1, 2, 3, 4, 5, 6, 7, 8, 9, 10, 11, 12, 13, 14, 15, 16, 21, 26, 53, 58, 63, 82, 90, 93, 110, 115, 118]⟩),
  (9, ⟨[3, 9], [3, 9], [0, 1, 2, 3, 6, 7, 8, 9, 10, 15, 29, 34]⟩),
  (10, ⟨[2, 3, 7, 8], [2, 3, 7, 8], [0, 1, 2, 3, 4, 5, 6, 7, 8, 9, 14, 19, 34, 39, 44]⟩),
  (11, ⟨[2, 6, 7, 9, 13], [2, 6, 7, 9, 13], [0, 1, 2, 4, 5, 6, 7, 8, 9, 10, 11, 12, 13, 18, 23, 39, 44, 49, 63, 71, 74, 83, 88, 91]⟩),
  (12, ⟨[2, 6, 8, 9, 14], [2, 6, 8, 9, 14], [0, 1, 2, 4, 5, 6, 7, 8, 9, 10, 11, 12, 13, 14, 15, 20, 44, 49, 65, 73, 76, 92, 97, 100]⟩),
  (13, ⟨[3, 4, 8, 9, 10, 11, 15], [3, 4, 8, 9, 10, 11, 15], [0, 1, 2, 3, 4, 6, 7, 8, 9, 10, 11, 12, 13, 14, 15, 20, 25, 43, 48, 53, 67, 75, 78, 88, 93, 96]⟩),
  (14, ⟨[2], [2, 5], [0, 1, 2, 4, 10]⟩),
  (15, ⟨[1], [1, 6, 8], [0, 1, 2, 5]⟩),
  (16, ⟨[1, 2, 3], [1, 2, 3, 4, 6, 7, 9, 10, 13], [0, 1, 2, 3]⟩),
  (17, ⟨[1], [1, 6, 8], [0, 1, 2, 5]⟩),
  (18, ⟨[2, 3], [2, 3, 5, 7, 10, 12, 15, 17], [0, 1, 2, 3, 4, 9, 14, 20]⟩),
  (19, ⟨[2], [2, 5, 11], [0, 1, 2, 4, 10, 16]⟩),
  (20, ⟨[1], [1], [0, 1, 2, 3, 4, 5, 8, 15]⟩),
  (21, ⟨[1, 2, 3], [1, 2, 3, 4, 7, 8, 11], [0, 1, 2, 3]⟩),
  (22, ⟨[1], [1], [0, 1, 2, 3, 4, 5, 8, 15]⟩),
  (23, ⟨[], [], [0, 1, 4, 5, 10, 14, 26]⟩),
  (24, ⟨[2, 3], [2, 3, 5, 7, 11, 13], [0, 1, 2, 3, 4, 10, 16]⟩),
  (25, ⟨[2], [2, 5, 9], [0, 1, 2, 4]⟩),
  (26, ⟨[], [], [0, 1, 4, 5, 9]⟩),
  (27, ⟨[], [], [0, 1, 4, 5, 9, 18, 27]⟩),
  (28, ⟨[2], [2, 5, 11, 17, 23, 29], [0, 1, 2, 4, 10, 16, 22, 28, 34]⟩),
  (29, ⟨[2, 3], [2, 3, 5, 7, 11, 13, 18, 20, 25, 27, 32, 34, 39, 40, 42, 43, 48, 49, 51, 52, 57, 59, 64, 66, 71, 73, 78, 80], [0, 1, 2, 3, 4]⟩),
  (30, ⟨[1, 2, 3], [1, 2, 3, 4, 6, 7, 9, 10, 12, 13, 15, 16, 18, 19, 22, 23, 26, 27, 30, 31, 34, 35, 38], [0, 1, 2, 3]⟩),
  (31, ⟨[2, 3], [2, 3, 5, 7, 11, 13, 18, 20, 25, 27, 32, 34, 39, 41, 46, 48, 53, 55, 60, 62, 67, 69], [0, 1, 2, 3, 4]⟩),
  (32, ⟨[2, 3], [2, 3, 5, 7, 10, 12, 15, 17, 20, 22, 25, 27, 30, 32, 36, 38, 42, 44, 48, 50, 54, 56], [0, 1, 2, 3, 4, 9, 14, 19, 24, 29, 35, 41, 47, 53, 59]⟩),
  (33, ⟨[2, 4, 5], [2, 4, 5, 13, 15, 17, 26, 29, 34, 36], [0, 1, 2, 4, 5, 23]⟩),
  (34, ⟨[2, 4, 5], [2, 4, 5, 13, 21, 24, 28, 30], [0, 1, 2, 4, 5, 19]⟩),
  (35, ⟨[2], [2, 5], [0, 1, 2, 4]⟩),
  (36, ⟨[2], [2, 5], [0, 1, 2, 4, 10]⟩),
  (37, ⟨[1], [1, 4, 9, 15, 21, 23, 28, 34, 39, 44, 50, 56, 62, 68, 74, 79], [0, 1, 2, 3, 38, 66, 71, 85]⟩),
  (38, ⟨[1], [1, 7, 12, 18, 24, 26, 30, 45, 56, 67, 71, 76, 81, 87, 92], [0, 1, 2, 3, 4, 6, 29, 31, 32, 33, 34, 54, 57, 58, 59, 60, 65]⟩),
  (39, ⟨[2, 3, 4, 6], [2, 3, 4, 6, 18, 20, 27, 33, 34, 37, 41, 45, 46, 49], [0, 1, 2, 3, 4, 5, 6, 25, 39]⟩),
  (40, ⟨[2, 3, 4, 6], [2, 3, 4, 6, 18, 24, 25, 28, 31, 34, 35, 38], [0, 1, 2, 3, 4, 5, 6, 16, 30, 41]⟩),
  (41, ⟨[2], [2, 5, 11, 17, 23, 29, 35, 41, 47], [0, 1, 2, 4, 10, 16, 22, 28, 34, 40, 46, 52]⟩),
  (42, ⟨[3], [3, 9, 15, 24], [0, 1, 2, 3, 6, 7, 12, 32]⟩),
  (43, ⟨[1, 2, 3], [1, 2, 3, 4, 6, 7, 9, 10, 13, 14, 17, 18, 21, 22, 25, 26, 29, 30, 33, 34, 36, 37, 39, 40, 43, 44, 46, 47, 49, 50, 52, 53, 56], [0, 1, 2, 3]⟩),
  (44, ⟨[3, 8], [3, 8, 9, 17, 22], [0, 1, 2, 3, 6, 7, 8, 10, 11, 12, 13, 26]⟩),
  (45, ⟨[2, 3], [2, 3, 5, 7, 10, 12, 15, 17, 21, 23, 27, 29, 33, 35, 39, 41, 45, 47, 51, 53, 56, 58, 61, 63, 67, 69, 72, 74, 77, 79, 82, 84], [0, 1, 2, 3, 4, 9, 14, 20, 26, 32, 38, 44, 50, 55, 60, 66, 71, 76, 81, 87]⟩),
  (46, ⟨[2, 3], [2, 3, 8, 10, 14, 16, 21, 23, 29, 31, 37, 39, 45, 47, 53, 55, 61, 64, 69, 71, 75, 77, 82, 84, 89, 91, 96, 98, 103, 106, 112, 115, 121, 127, 132, 140, 146, 151, 158, 164, 169], [0, 1, 2, 3, 4, 5, 6, 7, 68, 119, 124, 138, 143, 156, 161, 174]⟩),
  (47, ⟨[2, 3], [2, 3, 6, 8, 12, 14, 19, 21, 26, 28, 33, 35, 40, 42, 47, 49, 53, 55, 60, 62, 67, 69, 74, 76, 81, 83, 88, 90, 95, 97, 102, 104], [0, 1, 2, 3, 4, 5, 52]⟩),
  (48, ⟨[], [], [0, 1, 4, 5, 11, 15, 25]⟩),
  (49, ⟨[2, 4, 5], [2, 4, 5, 27, 34], [0, 1, 2, 4, 5, 6, 7, 10, 15, 26]⟩),
  (50, ⟨[], [], [0, 2, 3, 4, 11]⟩),
  (51, ⟨[2, 4, 5], [2, 4, 5, 27, 34], [0, 1, 2, 4, 5, 6, 7, 10, 15, 26]⟩),
  (52, ⟨[], [], [0, 1, 4, 5, 10, 14, 26]⟩),
  (53, ⟨[], [], [0, 1, 4, 5, 9]⟩),
  (54, ⟨[2], [2, 5, 11], [0, 1, 2, 4, 10, 16]⟩),
  (55, ⟨[2, 4, 6], [2, 4, 6, 14, 16, 18, 27, 31, 38], [0, 1, 2, 4, 5, 6, 7, 24, 34]⟩),
  (56, ⟨[2, 4, 6, 8], [2, 4, 6, 8, 14, 23, 26], [0, 1, 2, 4, 5, 6, 8, 20, 29, 30, 31, 32]⟩),
  (57, ⟨[2], [2, 5], [0, 1, 2, 4, 10]⟩),
  (58, ⟨[3, 4, 6, 7], [3, 4, 6, 7, 19, 25, 34, 37], [0, 1, 2, 3, 4, 6, 7, 23]⟩),
  (59, ⟨[1, 2, 3], [1, 2, 3, 4, 7, 8, 10], [0, 1, 2, 3]⟩),
  (60, ⟨[3, 4, 6, 7], [3, 4, 6, 7, 20, 28, 35, 38], [0, 1, 2, 3, 4, 6, 7, 8, 24]⟩),
  (61, ⟨[2, 3], [2, 3, 5, 7, 11, 13], [0, 1, 2, 3, 4, 10, 15]⟩),
  (62, ⟨[2], [2, 5], [0, 1, 2, 4]⟩),
  (63, ⟨[2], [2, 5], [0, 1, 2, 4, 10]⟩),
  (64, ⟨[], [], [0, 1, 4, 5, 11, 15, 25]⟩),
  (65, ⟨[1], [1, 4, 9, 12, 17, 23, 25, 32, 38], [0, 1, 2, 3, 30, 35, 44]⟩),
  (66, ⟨[], [], [0, 2, 3, 4, 11]⟩),
  (67, ⟨[1, 4], [1, 4, 5, 16, 20, 23, 28, 33, 35], [0, 1, 2, 4, 6, 7, 8, 9, 14]⟩),
  (68, ⟨[], [], [0, 1, 4, 5, 10, 14, 26]⟩),
  (69, ⟨[], [], [0, 1, 4, 5, 11, 15, 25]⟩),
  (70, ⟨[], [], [0, 1, 4, 10]⟩),
  (71, ⟨[2, 5], [2, 5, 21, 24, 27], [0, 1, 2, 4, 5, 6, 9, 17, 23]⟩),
  (72, ⟨[], [], [0, 2, 3, 4, 11]⟩),
  (73, ⟨[], [], [0, 2, 3, 4, 11]⟩),
  (74, ⟨[2, 5], [2, 5, 23, 26, 28], [0, 1, 2, 4, 5, 6, 9, 16, 22]⟩),
  (75, ⟨[2, 3], [2, 3, 5, 7, 10, 12], [0, 1, 2, 3, 4, 9, 14]⟩),
  (76, ⟨[], [], [0, 1, 4, 5, 10, 14, 26]⟩),
  (77, ⟨[], [], [0, 1, 4, 5, 10, 14, 26]⟩),
  (78, ⟨[], [], [0, 1, 4, 5, 9]⟩),
  (79, ⟨[], [], [0, 1, 4, 5, 9]⟩),
  (80, ⟨[], [], [0, 1, 4, 10]⟩),
  (81, ⟨[], [], [0, 1, 4, 10]⟩),
  (82, ⟨[], [], [0, 1, 4, 5, 10, 14, 25]⟩),
  (83, ⟨[2, 3], [2, 3, 7, 10, 15, 18, 24, 30, 35, 42, 48, 53], [0, 1, 2, 3, 4, 5, 6, 22, 27, 40, 45, 58]⟩),
  (84, ⟨[], [], [0, 1, 4, 5, 10, 14, 25]⟩),
  (85, ⟨[], [], [0, 2, 3, 4, 11]⟩),
  (86, ⟨[], [], [0, 2, 3, 4, 11]⟩),
  (87, ⟨[2, 3], [2, 3, 5, 7, 11, 13], [0, 1, 2, 3, 4]⟩),
  (88, ⟨[], [], [0, 1, 4, 5, 10, 12, 13, 14, 24]⟩),
  (89, ⟨[2, 3], [2, 3, 5, 7, 11, 13], [0, 1, 2, 3, 4]⟩),
  (90, ⟨[], [], [0, 1, 4, 5, 10, 12, 13, 14, 24]⟩),
  (91, ⟨[], [], [0, 1, 4, 5, 10, 14, 25]⟩),
  (92, ⟨[1, 2, 3], [1, 2, 3, 5, 7, 11, 17, 19, 27], [0, 1, 2, 3, 4, 14]⟩),
  (93, ⟨[], [], [0, 1, 2, 6]⟩),
  (94, ⟨[1, 2, 3, 5], [1, 2, 3, 5, 6, 8, 11, 18, 24], [0, 1, 2, 3, 5, 12, 13, 14, 15]⟩),
  (95, ⟨[], [], [0, 1, 2, 6]⟩),
  (96, ⟨[], [], [0, 1, 4, 5, 9]⟩),
  (97, ⟨[], [], [0, 1, 4, 5, 9, 20, 29]⟩),
  (98, ⟨[], [], [0, 2]⟩),
  (99, ⟨[1], [1, 3, 7, 10, 15, 20], [0, 1, 2, 6]⟩),
  (100, ⟨[], [], [0, 1, 2, 6, 7, 11, 15, 24]⟩),
  (101, ⟨[1, 4, 6], [1, 4, 6, 8, 14, 19, 27, 29, 40, 46, 47, 50, 56, 62, 67, 75, 77, 88], [0, 1, 2, 3, 4, 5, 6, 11, 54, 59, 92]⟩),
  (102, ⟨[], [], [0, 2, 3, 7, 43]⟩),
  (103, ⟨[], [], [0, 2]⟩),
  (104, ⟨[1], [1, 5, 9, 12, 23, 28], [0, 1, 2, 4, 8, 13, 14, 15, 16, 21]⟩),
  (105, ⟨[1, 4, 6], [1, 4, 6, 7, 15, 20, 29, 36, 42, 50, 55, 61, 62, 65, 74, 81], [0, 1, 2, 3, 4, 5, 6, 8, 9, 10, 11, 40, 43, 44, 45, 46, 85]⟩),
  (106, ⟨[4], [4, 12, 17, 32], [0, 2, 3, 4, 5, 6, 7, 8, 36]⟩),
  (107, ⟨[1, 2], [1, 2, 4, 8], [0, 1, 2]⟩),
  (108, ⟨[1, 2], [1, 2, 4, 8], [0, 1, 2]⟩),
  (109, ⟨[], [], [0, 1, 4, 10]⟩),
  (110, ⟨[], [], [0, 1, 4, 10]⟩),
  (111, ⟨[], [], [0, 2, 3, 4, 11]⟩),
  (112, ⟨[], [], [0, 2, 3, 4, 11]⟩),
  (113, ⟨[], [], [0, 1, 4, 5, 10, 14, 26]⟩),
  (114, ⟨[], [], [0, 1, 4, 5, 10, 14, 26]⟩),
  (115, ⟨[2, 3], [2, 3, 5, 7, 11, 13], [0, 1, 2, 3, 4]⟩),
  (116, ⟨[2, 3], [2, 3, 6, 8, 12, 14, 19, 22, 28, 34, 39], [0, 1, 2, 3, 4, 5, 26, 31, 45]⟩),
  (117, ⟨[], [], [0, 1, 2, 6, 7, 8, 9, 14, 15, 16, 17, 18, 30]⟩),
  (118, ⟨[], [], [0, 1, 4]⟩),
  (119, ⟨[2, 3], [2, 3, 5, 7, 11, 13, 18, 20], [0, 1, 2, 3, 4]⟩),
  (120, ⟨[], [], [0, 1, 4, 5, 10, 12, 13, 14, 24]⟩),
  (121, ⟨[], [], [0, 1, 4, 5, 10, 12, 13, 14, 24]⟩),
  (122, ⟨[], [], [0, 1, 4, 7]⟩),
  (123, ⟨[], [], [0, 1, 4, 5, 6, 9, 13, 24, 37]⟩),
  (124, ⟨[2, 3, 4, 5, 8, 10, 12], [2, 3, 4, 5, 8, 10, 12, 27, 34, 66, 70, 77], [0, 1, 2, 3, 4, 5, 6, 7, 8, 9, 10, 11, 12, 15, 26, 52, 64, 69]⟩),
  (125, ⟨[], [], [0, 1, 4, 5, 6, 7, 8, 9, 10, 11, 20, 30]⟩),
  (126, ⟨[2, 3, 4, 5, 7, 9, 11], [2, 3, 4, 5, 7, 9, 11, 40, 44, 51, 54, 61], [0, 1, 2, 3, 4, 5, 6, 7, 9, 11, 12, 15, 43, 53]⟩),
  (127, ⟨[], [], [0, 1, 4, 5, 9]⟩),
  (128, ⟨[], [], [0, 1, 4, 5, 9, 18, 28, 38, 48, 58, 69]⟩),
  (129, ⟨[], [], [0, 1, 4, 5, 9, 18, 27]⟩),
  (130, ⟨[1, 2], [1, 2, 4, 7], [0, 1, 2]⟩),
  (131, ⟨[2], [2], [0, 1, 2, 4, 12]⟩),
  (132, ⟨[], [], [0, 2, 5]⟩),
  (133, ⟨[], [], [0, 2, 3, 4, 9]⟩),
  (134, ⟨[1, 2], [1, 2, 3, 6], [0, 1, 2]⟩),
  (135, ⟨[], [], [0, 2, 5]⟩),
  (136, ⟨[2], [2], [0, 1, 2, 4, 12]⟩),
  (137, ⟨[], [], [0, 2, 3, 5, 7, 8, 9, 10]⟩),
  (138, ⟨[], [], [0, 1, 4, 5, 9, 17]⟩),
  (139, ⟨[2], [2, 5], [0, 1, 2, 4, 10]⟩),
  (140, ⟨[2, 4], [2, 4, 8, 14, 22], [0, 1, 2, 4, 5, 6, 11, 21]⟩),
  (141, ⟨[2], [2, 7, 13, 21], [0, 1, 2, 4, 5, 10, 20]⟩),
  (142, ⟨[1, 2, 3], [1, 2, 3, 4, 6, 7, 10], [0, 1, 2, 3]⟩),
  (143, ⟨[1, 2, 3], [1, 2, 3, 4, 6, 7, 9], [0, 1, 2, 3]⟩),
  (144, ⟨[2, 4, 7], [2, 4, 7, 8, 15, 19], [0, 1, 2, 4, 5, 7, 9, 10, 11, 12, 18]⟩),
  (145, ⟨[2, 6], [2, 6, 7, 14, 18], [0, 1, 2, 4, 6, 8, 9, 10, 11, 17]⟩),
  (146, ⟨[2, 3], [2, 3, 5, 7, 10, 12], [0, 1, 2, 3, 4, 9, 15]⟩),
  (147, ⟨[2, 3], [2, 3, 5, 7, 10, 12], [0, 1, 2, 3, 4, 9, 14]⟩),
  (148, ⟨[], [], [0, 2, 3, 5, 7]⟩),
  (149, ⟨[1, 2, 3], [1, 2, 3, 4, 6, 7, 9], [0, 1, 2, 3]⟩),
  (150, ⟨[], [], [0, 1, 4, 5, 10, 12, 13, 14, 24]⟩),
  (151, ⟨[], [], [0, 1, 4, 5, 10, 12, 13, 14, 24]⟩),
  (152, ⟨[1], [1, 3, 7, 12, 17, 22], [0, 1, 2]⟩),
  (153, ⟨[1], [1, 3, 7, 12, 17, 22], [0, 1, 2]⟩),
  (154, ⟨[1, 2, 3], [1, 2, 3, 4, 6, 7, 9, 10, 12, 13, 15], [0, 1, 2, 3]⟩),
  (155, ⟨[1, 2, 3], [1, 2, 3, 4, 6, 7, 9, 10, 12], [0, 1, 2, 3]⟩),
  (156, ⟨[2, 3], [2, 3, 5, 7, 10, 12, 15, 17, 20, 22], [0, 1, 2, 3, 4, 9, 14, 19, 24]⟩),
  (157, ⟨[2, 3], [2, 3, 5, 7, 10, 12, 15, 17], [0, 1, 2, 3, 4, 9, 14, 19]⟩),
  (158, ⟨[8, 9], [8, 9], [0, 1, 2, 6, 7, 8, 9, 14, 15, 16, 17, 18, 30]⟩),
  (159, ⟨[], [], [0, 1, 4, 7]⟩),
  (160, ⟨[2, 3], [2, 3, 7, 9, 12, 14, 17, 19, 22, 24, 43, 45, 48, 50], [0, 1, 2, 3, 4, 5, 6, 31, 38, 47]⟩),
  (161, ⟨[2, 3, 4], [2, 3, 4], [0, 1, 2, 3, 4, 8]⟩),
  (162, ⟨[], [], [0, 2, 3, 4, 5, 6, 10, 21, 29]⟩),
  (163, ⟨[1, 5], [1, 5, 9, 14, 20, 26, 32, 34, 36, 38, 55, 60, 66, 73, 82], [0, 1, 2, 3, 4, 5, 6, 7, 8, 17, 44, 69]⟩),
  (164, ⟨[2, 4, 5], [2, 4, 5, 10, 17, 25, 27, 34, 36, 43, 51, 53, 60], [0, 1, 2, 4, 5, 6, 7, 13, 24, 39, 50]⟩),
  (165, ⟨[], [], [0, 2, 3, 7, 10]⟩),
  (166, ⟨[], [], [0, 2]⟩),
  (167, ⟨[], [], [0, 2, 3, 5, 6, 7, 8, 9, 10, 17, 18, 24]⟩),
  (168, ⟨[], [], [0, 2, 3, 6, 9]⟩),
  (169, ⟨[1, 5, 6, 8], [1, 5, 6, 8, 12, 16, 23, 26, 29, 32, 35, 38, 41, 48, 54, 62, 65], [0, 1, 2, 3, 5, 6, 8, 11, 17, 18, 19, 20, 55, 56, 57, 58]⟩),
  (170, ⟨[2, 4, 5, 7, 9], [2, 4, 5, 7, 9, 15, 23, 27, 32, 34, 42, 46, 51], [0, 1, 2, 4, 5, 7, 9, 13, 16, 17, 18, 19, 26, 35, 36, 37, 38, 45]⟩),
  (171, ⟨[], [], [0, 2, 3, 5, 7, 8, 9, 10]⟩),
  (172, ⟨[2], [2, 6], [0, 1, 2, 4, 11]⟩),
  (173, ⟨[1, 2, 3], [1, 2, 3, 4, 6, 7, 9, 10, 12, 13, 15, 16, 18], [0, 1, 2, 3]⟩),
  (174, ⟨[2, 3], [2, 3, 5, 7, 10, 12, 15, 17, 20, 22, 25, 27], [0, 1, 2, 3, 4, 9, 14, 19, 24, 29]⟩),
  (175, ⟨[], [], [0, 1, 4, 7]⟩),
  (176, ⟨[], [], [0, 2, 3]⟩),
  (177, ⟨[2, 3], [2, 3, 5, 7, 10, 12, 15, 17, 20, 22, 25, 27], [0, 1, 2, 3, 4]⟩),
  (178, ⟨[], [], [0, 2]⟩),
  (179, ⟨[], [], [0, 1, 4, 5, 9, 17]⟩),
  (180, ⟨[], [], [0, 2]⟩),
  (181, ⟨[], [], [0, 1, 4]⟩),
  (182, ⟨[], [], [0, 2, 3, 5, 6, 7, 8, 9, 14]⟩),
  (183, ⟨[], [], [0, 1, 4, 5, 6, 11, 12, 13, 16, 19]⟩),
  (184, ⟨[], [], [0, 1, 4]⟩),
  (185, ⟨[], [], [0, 1, 4, 5, 7, 8, 9, 16]⟩),
  (186, ⟨[], [], [0, 2]⟩),
  (187, ⟨[], [], [0, 1, 4]⟩)]
def LT (f : FuncId) : FInfo := (LTl.lookup f).getD ⟨[], [], []⟩
def ext0 : String → List Value → St → Option (Value × St) := fun name args st =>
  if name = "internal/bytealg.abigen_runtime_cmpstring" then (match args with
    | [.string a, .string b] => some (.int .i64 (Lib.compareBytes a.data.toList b.data.toList), st)
    | _ => none) else none
set_option maxRecDepth 100000 in
theorem ext0_ok : ExtOK Try.prog ext0 := by
  intro f fn args st v st' hf hb he ι w cargs hg hGL hrel hsz ha
  unfold ext0 at he
  split at he
  · rename_i hname
    have hfn : fn = Try.f188 := by
      have hm : fn ∈ Try.prog.funcs.toList.filter fun g => g.name == "internal/bytealg.abigen_runtime_cmpstring" :=
        List.mem_filter.2 ⟨Array.mem_toList_iff.2 (Array.mem_of_getElem? hf), by rw [hname]; rfl⟩
      rw [show (Try.prog.funcs.toList.filter fun g => g.name == "internal/bytealg.abigen_runtime_cmpstring") = [Try.f188] from by kernel_rfl] at hm
      exact List.mem_singleton.1 hm
    subst hfn
    split at he
    · rename_i a b
      injection he with he
      injection he with h1 h2
      subst h1 h2
      obtain ⟨y0, hy0, hv0⟩ := ha 0 _ rfl
      obtain ⟨y1, hy1, hv1⟩ := ha 1 _ rfl
      have hv0 : y0 = .string a := hv0
      have hv1 : y1 = .string b := hv1
      subst hv0 hv1
      have hc : cargs = #[.string a, .string b] := by
        obtain ⟨l⟩ := cargs
        match l, hsz, hy0, hy1 with
        | [x, y], _, h0, h1 =>
          simp at h0 h1
          rw [h0, h1]
      subst hc
      refine ⟨_, ι, w, ?_, hg, Goes.refl hrel, rfl⟩
      rw [run_callFunc_extern hf (by kernel_rfl) (by kernel_rfl) (by kernel_rfl) (e := Extern.BytealgCompare.compare) (by kernel_rfl), Lib.run_compareString]
      rfl
    · cases he
  · cases he
abbrev C (f : FuncId) (args : List Value) (st : St) (R : Value → St → Prop) : Prop := AC Try.prog LT ext0 f args st R

/-! Rows of ints -/
def ints (k : IntKind) (l : List Int) : List Value := l.map (Value.int k)
/-- A row that is read. -/
def Ints (st : St) (k : IntKind) (p : Option Addr) (l : List Int) : Prop := l.length = 0 ∨ ∃ b off blk, p = some ⟨b, off, none⟩ ∧ st.mem b = some blk ∧ b < st.next ∧ ∀ j < l.length, blk.cells[off + j * 1]? = some (.int k (l.getD j 0))
theorem Ints.at {st : St} {k : IntKind} {p : Option Addr} {l : List Int} (h : Ints st k p l) {j : Nat} (hj : j < l.length) : ∃ b off blk, p = some ⟨b, off, none⟩ ∧ st.mem b = some blk ∧ blk.cells[off + j * 1]? = some (.int k (l.getD j 0)) := by
  rcases h with h | ⟨b, off, blk, h1, h2, _, h3⟩
  · omega
  · exact ⟨b, off, blk, h1, h2, h3 j hj⟩
/-- A row of one's own. -/
def Own (st : St) (k : IntKind) (p : Option Addr) (l : List Int) : Prop := (p = none ∧ l = []) ∨ ∃ a, p = some ⟨a, 0, none⟩ ∧ a < st.next ∧ st.mem a = some ⟨true, 1, ints k l⟩
theorem Own.ints {st : St} {k : IntKind} {p : Option Addr} {l : List Int} (h : Own st k p l) : Ints st k p l := by
  rcases h with ⟨rfl, rfl⟩ | ⟨a, rfl, ha, hm⟩
  · exact .inl rfl
  · refine .inr ⟨a, 0, _, rfl, hm, ha, fun j hj => ?_⟩
    simp [AM.ints, List.getD_eq_getElem?_getD, List.getElem?_eq_getElem hj]
theorem Pres.ints {st st' : St} {k : IntKind} {p : Option Addr} {l : List Int} (h : Pres st st') (hi : Ints st k p l) : Ints st' k p l := by
  rcases hi with hi | ⟨b, off, blk, rfl, hm, hb, hc⟩
  · exact .inl hi
  · exact .inr ⟨b, off, blk, rfl, (h.2 b hb).trans hm, Nat.lt_of_lt_of_le hb h.1, hc⟩
theorem Pres.own {st st' : St} {k : IntKind} {p : Option Addr} {l : List Int} (h : Pres st st') (hi : Own st k p l) : Own st' k p l := by
  rcases hi with ⟨rfl, rfl⟩ | ⟨a, rfl, ha, hm⟩
  · exact .inl ⟨rfl, rfl⟩
  · exact .inr ⟨a, rfl, Nat.lt_of_lt_of_le ha h.1, (h.2 a ha).trans hm⟩
theorem wrap_i64 {i : Int} (h0 : -9223372036854775808 ≤ i) (h : i < 9223372036854775808) : IntKind.wrap .i64 i = i := by
  unfold IntKind.wrap; simp [IntKind.bits, IntKind.signed]; omega
theorem eq_of_getD {a b : List Int} (hl : a.length = b.length) (h : ∀ j < a.length, a.getD j 0 = b.getD j 0) : a = b := by
  refine List.ext_getElem hl fun n h1 h2 => ?_
  have := h n h1
  rwa [List.getD_eq_getElem?_getD, List.getD_eq_getElem?_getD, List.getElem?_eq_getElem h1, List.getElem?_eq_getElem h2] at this
theorem getD_snoc (l : List Int) (x : Int) (j : Nat) : (l ++ [x]).getD j 0 = if j = l.length then x else l.getD j 0 := by
  simp only [List.getD_eq_getElem?_getD]
  by_cases h : j < l.length
  · rw [List.getElem?_append_left h, if_neg (by omega)]
  · by_cases h2 : j = l.length
    · subst h2; simp
    · rw [if_neg h2, List.getElem?_eq_none (by simp; omega), List.getElem?_eq_none (by omega)]
/-- 'append' of one number onto a row of one's own. -/
theorem op_app1 {P : Program} {e : Operand → Value} {lo : Lo} {st : St} {c : Call} {t el : TypeId} {ov ox : Operand} {k : IntKind} {p : Option Addr} {l : List Int} {x : Int} {n : Nat} {b : Nat} {z0 : List Value} {a2 : Nat}
    (hat : c.argTypes.toList = [t, t]) (har : c.args.toList = [ov, ox]) (he : telem P t = some el) (hz : tsize P el = some 1) (hb : tbytes P el = some b) (hz0 : tzero P el = some z0) (hz1 : z0.length = 1)
    (hov : e ov = .slice p n n) (hn : n = l.length) (hox : e ox = .slice (some ⟨a2, 0, none⟩) 1 1) (hm : rdB lo st a2 none = some [.int k x]) (hl : (n + 1) * b ≤ 140737488355328) (hml : n + 1 ≤ maxLen)
    (hown : Own st k p l) : ∃ st', aappend P c e lo st = some (.slice (some ⟨st.next, 0, none⟩) (n + 1) (n + 1), lo, st') ∧ st'.mem st.next = some ⟨true, 1, ints k (l ++ [x])⟩ ∧ st'.next = st.next + 1 ∧ (∀ a, a < st.next → (∀ q, p = some q → a ≠ q.block) → st'.mem a = st.mem a) := by
  subst hn
  obtain ⟨st', h1, h2, h3, h4⟩ := app1 (st := st) (z := 1) (b := b) (p := p) (l := ints k l) (x := .int k x) rfl (by simpa [ints] using hl) (by simpa [ints] using hml) (by
    rcases hown with ⟨rfl, rfl⟩ | ⟨a, rfl, _, ha⟩
    · exact .inl ⟨rfl, rfl⟩
    · exact .inr ⟨a, rfl, ha⟩)
  refine ⟨st', ?_, by simpa [ints] using h2, h3, h4⟩
  simp only [ints, List.length_map] at h1
  simp [aappend, hat, har, he, hz, hb, hz0, hz1, hov, hox, asrc, hm, h1]
section
variable {P : Program} {ls : List Tmp} {call : ACallT} {o : Oper} {e : Operand → Value} {lo : Lo} {st : St} {K : Value × Lo × St → Prop}
/-- A literal of one number. -/
theorem op_lit1 {t el : TypeId} {x : Operand} {k : IntKind} {n : Int} {u : Value} (ho : o.op = .buildSlice t 1 #[(0, x)]) (hx : e x = .int k n) (he : telem P t = some el) (hz : tsize P el = some 1) (hz0 : tzero P el = some [u])
    (hK : K (.slice (some ⟨st.next, 0, none⟩) 1 1, lo, st.push 1 [.int k n])) : ∃ r, aoper P ls call o e lo st = some r ∧ K r := by
  refine ⟨_, ?_, hK⟩
  obtain ⟨d, op, ty, pos, after, gd⟩ := o
  simp only at ho
  subst ho
  simp [aoper, alit, he, hz, hz0, parts, hx, afill, zrow, splice, Value.cells, isCell]
theorem op_lit0 {t el : TypeId} {u : List Value} {z : Nat} (ho : o.op = .buildSlice t 0 #[]) (he : telem P t = some el) (hz : tsize P el = some z) (hz0 : tzero P el = some u) (h0 : 0 < z) (hu : u.length = z)
    (hK : K (.slice none 0 0, lo, st)) : ∃ r, aoper P ls call o e lo st = some r ∧ K r := by
  refine ⟨_, ?_, hK⟩
  obtain ⟨d, op, ty, pos, after, gd⟩ := o
  simp only at ho
  subst ho
  simp [aoper, rop, litNil, he, hz, h0]
/-- 'append' of a literal of one number, just made. -/
theorem op_grow {st0 : St} {c : Call} {t el : TypeId} {ov ox : Operand} {k : IntKind} {p : Option Addr} {l : List Int} {x : Int} {n b : Nat} {z0 : List Value}
    (hat : c.argTypes.toList = [t, t]) (har : c.args.toList = [ov, ox]) (he : telem P t = some el) (hz : tsize P el = some 1) (hb : tbytes P el = some b) (hz0 : tzero P el = some z0) (hz1 : z0.length = 1)
    (hov : e ov = .slice p n n) (hox : e ox = .slice (some ⟨st.next, 0, none⟩) 1 1) (hn : n = l.length) (hl : (n + 1) * b ≤ 140737488355328) (hml : n + 1 ≤ maxLen)
    (hown : Own st k p l) (hP : Pres st0 st) (hN : New st0.next p)
    (hK : ∀ q st', Own st' k q (l ++ [x]) → Pres st0 st' → New st0.next q → K (.slice q (n + 1) (n + 1), lo, st')) : ∃ r, aappend P c e lo (st.push 1 [.int k x]) = some r ∧ K r := by
  have hp1 : Pres st (st.push 1 [.int k x]) := ⟨Nat.le_succ _, fun a ha => by show (if a = st.next then _ else st.mem a) = st.mem a; rw [if_neg (Nat.ne_of_lt ha)]⟩
  obtain ⟨st', h1, h2, h3, h4⟩ := op_app1 (P := P) (lo := lo) hat har he hz hb hz0 hz1 hov hn hox (by show ((if st.next = st.next then _ else _ : Option Blk)).map _ = _; rw [if_pos rfl]; rfl) hl hml (hp1.own hown)
  refine ⟨_, h1, hK _ _ (.inr ⟨_, rfl, by omega, h2⟩) ⟨?_, fun a ha => ?_⟩ (fun q hq => ?_)⟩
  · rw [h3]; exact Nat.le_succ_of_le (Nat.le_trans hP.1 hp1.1)
  · have ha2 := Nat.lt_of_lt_of_le ha hP.1
    rw [h4 a (Nat.lt_of_lt_of_le ha2 hp1.1) (fun q hq => by have := hN q hq; omega), hp1.2 a ha2, hP.2 a ha]
  · injection hq with hq
    rw [← hq]
    exact Nat.le_trans hP.1 hp1.1
theorem Ints.take {k : IntKind} {b off : Nat} {l : List Int} {cs : List Value} (h : ∀ j < l.length, cs[off + j * 1]? = some (.int k (l.getD j 0))) : (cs.drop off).take (l.length * 1) = ints k l := by
  refine List.ext_getElem? fun j => ?_
  rw [List.getElem?_take]
  split
  · rename_i hj
    rw [List.getElem?_drop]
    have := h j (by omega)
    rw [Nat.mul_one] at this
    rw [this]
    simp [ints, List.getD_eq_getElem?_getD, List.getElem?_eq_getElem (show j < l.length by omega)]
  · rename_i hj
    rw [List.getElem?_eq_none]
    simp [ints]; omega
/-- 'append(out, list...)' -/
theorem op_appN {st0 : St} {c : Call} {t el : TypeId} {ov ox : Operand} {k : IntKind} {p q : Option Addr} {l l2 : List Int} {n m b : Nat} {z0 : List Value}
    (hat : c.argTypes.toList = [t, t]) (har : c.args.toList = [ov, ox]) (he : telem P t = some el) (hz : tsize P el = some 1) (hb : tbytes P el = some b) (hz0 : tzero P el = some z0) (hz1 : z0.length = 1)
    (hov : e ov = .slice p n n) (hox : e ox = .slice q m m) (hn : n = l.length) (hm : m = l2.length) (hl : (n + m) * b ≤ 140737488355328) (hml : n + m ≤ maxLen)
    (hown : Own st k p l) (hint : Ints st k q l2) (hP : Pres st0 st) (hN : New st0.next p)
    (hK : ∀ q st', Own st' k q (l ++ l2) → Pres st0 st' → New st0.next q → K (.slice q (n + m) (n + m), lo, st')) : ∃ r, aappend P c e lo st = some r ∧ K r := by
  subst hn hm
  have hsrc : asrc 1 (rdB lo st) (.slice q l2.length l2.length) = some (l2.length, ints k l2) := by
    by_cases h0 : l2.length = 0
    · have : l2 = [] := List.length_eq_zero_iff.1 h0
      subst this
      cases q <;> simp [asrc, ints]
    · rcases hint with h | ⟨b2, off, blk, rfl, hmem, _, hc⟩
      · exact absurd h h0
      · have := Ints.take (b := b2) hc
        simp only [asrc, rdB, hmem, Option.map_some, Option.bind_some]
        rw [if_neg h0, this]
        simp [ints]
  have hred : aappend P c e lo st = (aapp 1 l2.length b (.slice p l.length l.length) (ints k l2) st).map fun r => (r.1, lo, r.2) := by
    simp [aappend, hat, har, he, hz, hb, hz0, hz1, hov, hox, hsrc]
  rw [hred]
  unfold aapp
  simp only
  rw [if_pos ⟨hl, hml, Nat.one_pos, by simp [ints]⟩]
  by_cases h0 : l2.length = 0
  · have : l2 = [] := List.length_eq_zero_iff.1 h0
    subst this
    exact ⟨_, by simp, hK p st (by simpa using hown) hP hN⟩
  · rw [if_neg h0]
    rcases hown with ⟨rfl, rfl⟩ | ⟨a, rfl, ha, hmem⟩
    · refine ⟨_, rfl, ?_⟩
      have := hK (some ⟨st.next, 0, none⟩) (st.push 1 (ints k l2)) (.inr ⟨_, rfl, Nat.lt_succ_self _, by simp [St.push]⟩) ⟨Nat.le_succ_of_le hP.1, fun x hx => ?_⟩ (fun q hq => ?_)
      · simpa using this
      · show (if x = st.next then _ else st.mem x) = _
        rw [if_neg (by have := hP.1; omega)]; exact hP.2 x hx
      · injection hq with hq; rw [← hq]; exact hP.1
    · simp only [hmem]
      rw [if_pos (by simp [ints])]
      refine ⟨_, rfl, hK (some ⟨st.next, 0, none⟩) ((st.set a none).push 1 (ints k l ++ ints k l2)) (.inr ⟨_, rfl, Nat.lt_succ_self _, ?_⟩) ⟨Nat.le_succ_of_le hP.1, fun x hx => ?_⟩ (fun q hq => ?_)⟩
      · simp [St.push, St.set, ints]
      · show (if x = st.next then _ else if x = a then none else st.mem x) = _
        rw [if_neg (by have := hP.1; omega), if_neg (by have := hN _ rfl; simp only at this; omega)]; exact hP.2 x hx
      · injection hq with hq; rw [← hq]; exact hP.1
end
theorem Own.push {st : St} {k : IntKind} {l : List Int} : Own (st.push 1 (AM.ints k l)) k (some ⟨st.next, 0, none⟩) l := .inr ⟨_, rfl, Nat.lt_succ_self _, by show (if st.next = st.next then _ else _ : Option Blk) = _; rw [if_pos rfl]⟩
theorem Own.r {st : St} {k : IntKind} {p : Option Addr} {l : List Int} : Own st k p l ↔ OwnR st 1 (fun x => [.int k x]) p l := by
  have : AM.ints k l = l.flatMap fun x => [Value.int k x] := by induction l with
    | nil => rfl
    | cons a l ih => rw [List.flatMap_cons, ← ih]; rfl
  unfold Own OwnR
  rw [this]
abbrev fI : Int → List Value := fun x => [.int .i64 x]
theorem fI_len (x : Int) : (fI x).length = 1 := rfl
theorem OwnR.ints {st : St} {p : Option Addr} {l : List Int} (h : OwnR st 1 fI p l) : Ints st .i64 p l := (Own.r.2 h).ints
theorem ammL_max (a b : Int) : ammL true [.int .i64 a, .int .i64 b] = some (.int .i64 (max a b)) := by
  simp only [ammL, ammF, amm, Int.max_def, if_true, Option.bind_some]
  congr 2
  split <;> split <;> omega
theorem ammL_min (a b : Int) : ammL false [.int .i64 a, .int .i64 b] = some (.int .i64 (min a b)) := by
  simp only [ammL, ammF, amm, Int.min_def, if_true, Option.bind_some]
  congr 2
  split <;> split <;> simp_all <;> omega
/-! What was laid out, typed -/
theorem Rows.ints {st : St} {k : IntKind} {p : Option Addr} {l : List Int} (h : Rows st 1 (fun x => [Value.int k x]) p l) : Ints st k p l := by
  rcases h with rfl | ⟨b, off, blk, rfl, hm, hb, hc⟩
  · exact .inl rfl
  · refine .inr ⟨b, off, blk, rfl, hm, hb, fun j hj => ?_⟩
    have h1 := hc j l[j] (List.getElem?_eq_getElem hj)
    have h2 := row_cell h1 (i := 0) rfl
    rw [Nat.add_zero] at h2
    rw [h2, List.getD_eq_getElem?_getD, List.getElem?_eq_getElem hj]
    rfl
set_option maxRecDepth 100000 in
theorem wt_bytes {L : LL} {us : List Value} (h : WT Try.prog Try.prog.globals.size 12 174 L us) : ∃ p l, us = [vS p l.length] ∧ Ints (stL Try.prog.globals.size L) .u8 p l ∧ l.length ≤ maxLen := by
  obtain ⟨p, l, h1, h2, h3, _⟩ := WT.rows (f := fun x => [Value.int .u8 x]) (Q := fun _ => True) Try.underlying174 (z := 1) (by kernel_rfl) (fun us h => by
    obtain ⟨n, h, _⟩ := WT.int Try.underlying5 h
    exact ⟨n, h, trivial⟩) h
  exact ⟨p, l, h1, h2.ints, h3⟩
end Go.Proofs.Ytopcpcoklgepnaa.AM
