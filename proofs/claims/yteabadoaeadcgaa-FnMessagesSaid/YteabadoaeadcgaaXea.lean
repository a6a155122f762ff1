/- Part 1 of the texts on which the law's proof rests. -/
import Derived.Test.YteabadoaeadcgaaXeA14
import Derived.Test.YteabadoaeadcgaaProg
import Derived.KernelRfl
import Derived.Lib.Bytealg
import Derived.Laws.Externs
import Derived.Laws.Strings
namespace Go.Proofs.Yteabadoaeadcgaa.AM
open Go Go.Proofs
set_option linter.unusedVariables false
def LTl : List (Nat × FInfo) := [(2,⟨[],[],[],[]⟩),
 (3,⟨[],[],[0,2,3,4,5,6,7,8,9,10,11,13,32,36,61,68,116],[]⟩),
 (4,⟨[3,4,5,7],[3,4,5,7],[0,2,3,4,5,6,8,9,10,11,13,33,35,69,71,110],[]⟩),
 (5,⟨[3,4,5,7,9],[3,4,5,7,9,35,38,65,68,77,79],[0,2,3,4,5,6,8,9,10,12,32,34],[]⟩),
 (6,⟨[3,5,7,9,11,13,15,16],[3,5,7,9,11,13,15,16,42,48,56,64],[0,2,3,4,5,6,8,9,10,11,12,13,15,16,17,19,39,41,59],[]⟩),
 (7,⟨[3,6,11],[3,6,11],[0,2,3,4,5,6,7,8,9,10,11,12,15,37,42,58,66,69,84,89,92],[]⟩),
 (8,⟨[3,5,8,10],[3,5,8,10],[0,2,3,4,5,6,7,8,9,11,13,35],[]⟩),
 (9,⟨[3,8],[3,8,66],[0,2,3,4,5,6,7,8,9,11,18,24,26,69],[]⟩),
 (10,⟨[1,5],[1,5],[0,1,2,3,4,5,6,7,8,9,10,15,26,31,42,50,53,60,65,68],[]⟩),
 (11,⟨[3,6,11],[3,6,11],[0,2,3,4,5,6,7,8,9,10,11,12,15,37,42,58,66,69,84,89,92],[]⟩),
 (12,⟨[3,5,8,10],[3,5,8,10],[0,2,3,4,5,6,7,8,9,11,13,35],[]⟩),
 (13,⟨[],[],[0,2],[]⟩),
 (14,⟨[],[],[0,2,3,4,5,6,7],[]⟩),
 (15,⟨[9],[9,42,48,52],[0,1,2,6,7,9,30,32,33,34,35],[]⟩),
 (16,⟨[],[],[0,1,2,6,7,8,29,34],[]⟩),
 (17,⟨[],[],[0,1,4,5,10,14,25],[]⟩),
 (18,⟨[],[],[0,1,4,5,6,7,8,9,10,11,20,30],[]⟩),
 (19,⟨[],[],[0,2],[]⟩),
 (20,⟨[],[],[0,2,3,7,9,10,11],[]⟩),
 (21,⟨[],[],[0,1,4,6,8,9,10,11,12,15,16,17,18,23,27],[]⟩),
 (22,⟨[],[],[0,1,4,5,6,15,18,26,33,44],[]⟩),
 (23,⟨[2,3],[2,3],[0,2,3],[]⟩),
 (24,⟨[2,3,4],[2,3,4],[0,1,2,3,4,5,13],[]⟩),
 (25,⟨[2,3,4],[2,3,4],[0,1,2,3,4,5,13],[]⟩),
 (26,⟨[1],[1],[0,1,2,3,4,5,8,15],[]⟩),
 (27,⟨[2,5],[2,5,23,26,28],[0,1,2,4,5,6,9,16,22],[]⟩),
 (28,⟨[2,3,5],[2,3,5],[0,2,3,4,5],[]⟩),
 (29,⟨[2,3,4,6],[2,3,4,6,18,24,25,28,31,34,35,38],[0,1,2,3,4,5,6,16,30,41],[]⟩),
 (30,⟨[2,3,4,6],[2,3,4,6,18,20,27,33,34,37,41,45,46,49],[0,1,2,3,4,5,6,25,39],[]⟩),
 (31,⟨[2,4,6,8],[2,4,6,8,14,23,26],[0,1,2,4,5,6,8,20,29,30,31,32],[]⟩),
 (32,⟨[1],[1,6,8],[0,1,2,5],[]⟩),
 (33,⟨[2,3],[2,3,5,7,11,13],[0,1,2,3,4],[]⟩),
 (34,⟨[1,4],[1,4,5,16,20,23,28,33,35],[0,1,2,4,6,7,8,9,14],[]⟩),
 (35,⟨[2],[2],[0,2,3],[]⟩),
 (36,⟨[2,4,6],[2,4,6,14,16,18,27,31,38],[0,1,2,4,5,6,7,24,34],[]⟩),
 (37,⟨[2,4,5],[2,4,5,13,21,24,28,30],[0,1,2,4,5,19],[]⟩),
 (38,⟨[2,5,8],[2,5,8,39,42,43,46,47,50,51,54,55,76,77,82,87,97,111],[0,2,3,4,5,6,7,8,9,10,11,12,13,33,73,94,132],[]⟩),
 (39,⟨[],[],[0,2,3,4,11],[]⟩),
 (40,⟨[2,5,7,9],[2,5,7,9,22,25,26,29,30,33,34,37,38,41,42,43,48,58,61,62,67],[0,2,3,4,5,6,7,8,9,16,17,18,52,53,54,84],[]⟩),
 (41,⟨[2,3],[2,3,5,7,11,13],[0,1,2,3,4,10,16],[]⟩),
 (42,⟨[],[],[0,1,4,5,10,14,25],[]⟩),
 (43,⟨[],[],[0,1,4,5,9],[]⟩),
 (44,⟨[2],[2,5,9],[0,1,2,4],[]⟩),
 (45,⟨[2],[2,5,11],[0,1,2,4,10,16],[]⟩),
 (46,⟨[2],[2],[0,2],[]⟩),
 (47,⟨[1,5,6,8],[1,5,6,8,12,16,23,26,29,32,35,38,41,48,54,62,65],[0,1,2,3,5,6,8,11,17,18,19,20,55,56,57,58],[]⟩),
 (48,⟨[1,4,6],[1,4,6,8,14,19,27,29,40,46,47,50,56,62,67,75,77,88],[0,1,2,3,4,5,6,11,54,59,92],[]⟩),
 (49,⟨[2,3],[2,3,7,10,15,18,24,30,35,42,48,53],[0,1,2,3,4,5,6,22,27,40,45,58],[]⟩),
 (50,⟨[],[],[0,2,3,4,12,14,15,20,28],[]⟩),
 (51,⟨[1,4,6],[1,4,6,7,15,20,29,36,42,50,55,61,62,65,74,81],[0,1,2,3,4,5,6,8,9,10,11,40,43,44,45,46,85],[]⟩),
 (52,⟨[2],[2],[0,2],[]⟩),
 (53,⟨[1,6],[1,6,10,15,18,21,24,27,30,31,34,35,38,41,48,54,62,65],[0,1,2,3,4,6,9,55,56,57,58],[(4,[2,3,4,5,6,7,8,9,10,11,12,13,14,15,16,17,18,19,20,21,22,23,24,25,26,27,28,29,30,31,32,33,34,35,36,37,38,0,1,39,40,41])]⟩),
 (54,⟨[1],[1,4,9,15,21,23,28,34,39,44,50,56,62,68,74,79],[0,1,2,3,38,66,71,85],[]⟩),
 (55,⟨[],[],[0,1,4,8],[]⟩),
 (56,⟨[2,6,8,11],[2,6,8,11,32,35,38,41,44,47,48,51,52,55,58,96,113,116,117,122],[0,2,3,4,5,6,7,8,9,10,11,22,74,93,107,108,109,139],[]⟩),
 (57,⟨[2],[2,5,11,17,23,29],[0,1,2,4,10,16,22,28,34],[]⟩),
 (58,⟨[1],[1],[0,1,2,3,6],[]⟩),
 (59,⟨[1,2,3],[1,2,3,4,6,7,9,10,12,13,15,16,18,19,22,23,26,27,30,31,34,35,38],[0,1,2,3],[]⟩),
 (60,⟨[2,3],[2,3,5,7,10,12,15,17,20,22,25,27,30,32,36,38,42,44,48,50,54,56],[0,1,2,3,4,9,14,19,24,29,35,41,47,53,59],[]⟩),
 (61,⟨[2],[2,5,9,13,17,21],[0,1,2,4],[]⟩),
 (62,⟨[],[],[0,1,4,5,9,18],[]⟩),
 (63,⟨[2,5,7],[2,5,7,41,44,47,50,53,56,57,60,61,64,67,109,128,142],[0,2,3,4,5,6,7,8,9,10,29,87,125,163],[]⟩),
 (64,⟨[2],[2,5,11,17,23,29],[0,1,2,4,10,16,22,28,34],[]⟩),
 (65,⟨[2,3],[2,3,5,7,11,13,18,20,25,27,32,34,39,40,42,43,48,49,51,52,57,59,64,66,71,73,78,80],[0,1,2,3,4],[]⟩),
 (66,⟨[],[],[0,2,3,4,11],[]⟩),
 (67,⟨[1],[1,7,12,18,24,26,30,45,56,67,71,76,81,87,92],[0,1,2,3,4,6,29,31,32,33,34,54,57,58,59,60,65],[]⟩),
 (68,⟨[],[],[0,2,3,4,15],[]⟩),
 (69,⟨[],[],[0,2,3,7,8,16,25],[]⟩),
 (70,⟨[],[],[0,1,4,5,6,7,8,10,12],[]⟩),
 (71,⟨[],[],[0,2,3,8],[]⟩),
 (72,⟨[],[],[0,2,3,5,7,8,9,10],[]⟩),
 (73,⟨[],[],[0,1,2,6],[]⟩),
 (74,⟨[4],[4,12,17,32],[0,2,3,4,5,6,7,8,36],[]⟩),
 (75,⟨[],[],[0,2,3,4,9],[]⟩),
 (76,⟨[],[],[0,1,2,6],[]⟩),
 (77,⟨[],[],[0,2,3,7,43],[]⟩),
 (78,⟨[],[],[0,1,4,7],[]⟩),
 (79,⟨[2,3,5,6],[2,3,5,6],[0,2,3,4,5,6,14,15,19,26],[]⟩),
 (80,⟨[2,3,4,5,7,9,11],[2,3,4,5,7,9,11,40,44,51,54,61],[0,1,2,3,4,5,6,7,9,11,12,15,43,53],[]⟩),
 (81,⟨[2,3,4,5,8,10,12],[2,3,4,5,8,10,12,27,34,66,70,77],[0,1,2,3,4,5,6,7,8,9,10,11,12,15,26,52,64,69],[]⟩),
 (82,⟨[2,4,7],[2,4,7,8,15,19],[0,1,2,4,5,7,9,10,11,12,18],[]⟩),
 (83,⟨[2,6],[2,6,7,14,18],[0,1,2,4,6,8,9,10,11,17],[]⟩),
 (84,⟨[2,3],[2,3,13,19,22,28],[0,2,3,7,8,14,20],[]⟩),
 (85,⟨[2,3],[2,3,10,20,23,34,37,41,44,54,58,60],[0,2,3,7,8,21,35,40,52,57],[]⟩),
 (86,⟨[1,2,3,5],[1,2,3,5,6,8,11,18,24],[0,1,2,3,5,12,13,14,15],[]⟩),
 (87,⟨[1,2],[1,2,4,8],[0,1,2],[]⟩),
 (88,⟨[1,2,3],[1,2,3,5,7,11,17,19,27],[0,1,2,3,4,14],[]⟩),
 (89,⟨[1],[1,4,9,12,17,23,25,32,38],[0,1,2,3,30,35,44],[]⟩),
 (90,⟨[1,2],[1,2,4,8],[0,1,2],[]⟩),
 (91,⟨[],[],[0,1,4,5,10,12,13,14,24],[]⟩),
 (92,⟨[],[],[0,1,4,5,10,12,13,14,24],[]⟩),
 (93,⟨[2,5],[2,5,17,21],[0,2,3,4,5,11],[]⟩),
 (94,⟨[],[],[0,2,3,4,5,26],[]⟩),
 (95,⟨[],[],[0,1,4,5,6,7,8,9,26],[]⟩),
 (96,⟨[],[],[0,1,4,5,6,7,8,27],[]⟩),
 (97,⟨[1,5],[1,5,9,14,20,26,32,34,36,38,55,60,66,73,82],[0,1,2,3,4,5,6,7,8,17,44,69],[]⟩),
 (98,⟨[],[],[0,1,4,5,10],[]⟩),
 (99,⟨[],[],[0,2,3,4,5,26],[]⟩),
 (100,⟨[],[],[0,2,3,4,5,26],[]⟩),
 (101,⟨[],[],[0,1,4],[]⟩),
 (102,⟨[],[],[0,1,4,5,10,14,26],[]⟩),
 (103,⟨[],[],[0,1,4,5,10,14,26],[]⟩),
 (104,⟨[],[],[0,1,4,5,9],[]⟩),
 (105,⟨[],[],[0,1,4,5,9],[]⟩),
 (106,⟨[],[],[0,1,4,5,9,18,28,38,48,58,69],[]⟩),
 (107,⟨[],[],[0,1,4,5,9,18,27],[]⟩),
 (108,⟨[],[],[0,2,3,6,9],[]⟩),
 (109,⟨[],[],[0,2,3,5,7,8,9,10],[]⟩),
 (110,⟨[],[],[0,2],[]⟩),
 (111,⟨[],[],[0,2],[]⟩),
 (112,⟨[1],[1,3,7,12,17,22],[0,1,2],[]⟩),
 (113,⟨[2],[2,7,13,21],[0,1,2,4,5,10,20],[]⟩),
 (114,⟨[1],[1],[0,1,2,5],[]⟩),
 (115,⟨[],[],[0,2,3,34],[]⟩),
 (116,⟨[],[],[0,2],[]⟩),
 (117,⟨[1],[1,3,7,12,17,22],[0,1,2],[]⟩),
 (118,⟨[2,3],[2,3,13,16,18,24,25,28,35,38,42,47,52],[0,2,3,7,8,14,19,26,36,43,48],[]⟩),
 (119,⟨[],[],[0,2,3,5,9,10,11,12],[]⟩),
 (120,⟨[],[],[0,2,3],[]⟩),
 (121,⟨[1],[1,3,7,10,15,20],[0,1,2,6],[]⟩),
 (122,⟨[],[],[0,1,2,6,7,11,15,24],[]⟩),
 (123,⟨[],[],[0,1,4,5,6,7,12,13,14],[]⟩),
 (124,⟨[2],[2,5],[0,1,2,4,10],[]⟩),
 (125,⟨[],[],[0,1,4,10],[]⟩),
 (126,⟨[2],[2,5,11],[0,1,2,4,10,16],[]⟩),
 (127,⟨[],[],[0,1,4,10],[]⟩),
 (128,⟨[1],[1,9,11,13,15,17,34,35,40,41,46,51,55,67,73,80,89],[0,1,2,3,4,5,6,7,23,76],[]⟩),
 (129,⟨[],[],[0,2,3],[]⟩),
 (130,⟨[1,2,3],[1,2,3,4,7,8,10],[0,1,2,3],[]⟩),
 (131,⟨[],[],[0,2,3,4,11],[]⟩),
 (132,⟨[1,2,3],[1,2,3,4,7,8,11],[0,1,2,3],[]⟩),
 (133,⟨[],[],[0,2,3,4,11],[]⟩),
 (134,⟨[2,3],[2,3,5,7,11,13],[0,1,2,3,4,10,15],[]⟩),
 (135,⟨[],[],[0,1,4,5,10,14,25],[]⟩),
 (136,⟨[],[],[0,1,4,5,10,14,26],[]⟩),
 (137,⟨[2],[2,5],[0,1,2,4],[]⟩),
 (138,⟨[],[],[0,1,4,5,9],[]⟩),
 (139,⟨[],[],[0,1,4,5,9],[]⟩),
 (140,⟨[2],[2,5],[0,1,2,4,10],[]⟩),
 (141,⟨[],[],[0,1,4,5,9,17],[]⟩),
 (142,⟨[],[],[0,1,4,5,9,18,27],[]⟩),
 (143,⟨[],[],[0,1,4,5,10,14,25],[]⟩),
 (144,⟨[],[],[0,1,4,5,10,14,25],[]⟩),
 (145,⟨[],[],[0,1,4],[]⟩),
 (146,⟨[],[],[0,1,4,5,6,9,12,13,31,39,43],[]⟩),
 (147,⟨[1],[1,5,9,12,23,28],[0,1,2,4,8,13,14,15,16,21],[]⟩),
 (148,⟨[],[],[0,2,3,4,5,13],[]⟩),
 (149,⟨[],[],[0,1,4],[]⟩),
 (150,⟨[1],[1],[0,1,2,3,4,5,8,15],[]⟩),
 (151,⟨[2,3,6],[2,3,6],[0,2,3,4,5,6,8,9,15,33],[]⟩),
 (152,⟨[],[],[0,2],[]⟩),
 (153,⟨[2,3,4],[2,3,4],[0,1,2,3,4,8],[]⟩),
 (154,⟨[2,4],[2,4,8,14,22],[0,1,2,4,5,6,11,21],[]⟩),
 (155,⟨[2,3],[2,3,7,9,12,14,17,19,22,24,43,45,48,50],[0,1,2,3,4,5,6,31,38,47],[]⟩),
 (156,⟨[2,3,6],[2,3,6],[0,2,3,4,5,6,19],[]⟩),
 (157,⟨[2,3],[2,3,13,19,25,31,34],[0,2,3,7,8,14,20,26,32],[]⟩),
 (158,⟨[],[],[0,2],[]⟩),
 (159,⟨[],[],[0,1,4,5,6,7,8,9,11,23,39,49],[]⟩),
 (160,⟨[],[],[0,2,3,7,10],[]⟩),
 (161,⟨[],[],[0,2],[]⟩),
 (162,⟨[],[],[0,1,4,5,6,7,8,9,17,27,45,55],[]⟩),
 (163,⟨[],[],[0,1,4,5,6,7,8,9,26],[]⟩),
 (164,⟨[2,3],[2,3,5,7,10,12],[0,1,2,3,4,9,15],[]⟩),
 (165,⟨[2,3],[2,3,5,7,10,12],[0,1,2,3,4,9,14],[]⟩),
 (166,⟨[],[],[0,2,3,5,7],[]⟩),
 (167,⟨[2,3,5],[2,3,5,31,39,45,52,57,59,62,65],[0,2,3,4,5,6,7,8,28,36,47,51],[]⟩),
 (168,⟨[],[],[0,2,3,5,6,7,8,9,10,17,18,24],[]⟩),
 (169,⟨[],[],[0,1,4,5,11,15,25],[]⟩),
 (170,⟨[],[],[0,1,4,10],[]⟩),
 (171,⟨[],[],[0,2,3,4,11],[]⟩),
 (172,⟨[],[],[0,2,3,4,5,6,10,21,29],[]⟩),
 (173,⟨[],[],[0,2,3,4,11],[]⟩),
 (174,⟨[],[],[0,2,3,4,11],[]⟩),
 (175,⟨[1,2,3],[1,2,3,4,6,7,9],[0,1,2,3],[]⟩),
 (176,⟨[2,3],[2,3,5,7,10,12],[0,1,2,3,4,9,14],[]⟩),
 (177,⟨[],[],[0,2,3,4,8,12],[]⟩),
 (178,⟨[2,5],[2,5,21,24,27],[0,1,2,4,5,6,9,17,23],[]⟩),
 (179,⟨[3,4,6],[3,4,6],[0,1,3,4,5,6,14],[]⟩),
 (180,⟨[2],[2],[0,2],[]⟩),
 (181,⟨[2,3],[2,3,5,7,10,12,15,17,20,22,25,27],[0,1,2,3,4],[]⟩),
 (182,⟨[],[],[0,1,4,7],[]⟩),
 (183,⟨[],[],[0,2,3],[]⟩),
 (184,⟨[],[],[0,1,4,7],[]⟩),
 (185,⟨[2,3],[2,3,5,7,10,12,15,17,20,22,25,27],[0,1,2,3,4,9,14,19,24,29],[]⟩),
 (186,⟨[1,2,3],[1,2,3,14,21,22,25],[0,1,2,3,4,7,11],[]⟩),
 (187,⟨[2,4,5],[2,4,5,10,17,25,27,34,36,43,51,53,60],[0,1,2,4,5,6,7,13,24,39,50],[]⟩),
 (188,⟨[2],[2,5],[0,1,2,4,10],[]⟩),
 (189,⟨[1,2,3],[1,2,3,4,6,7,10],[0,1,2,3],[]⟩),
 (190,⟨[1,2,3],[1,2,3,4,6,7,9],[0,1,2,3],[]⟩),
 (191,⟨[],[],[0,1,4],[]⟩),
 (192,⟨[],[],[0,2,3,5,6,7,8,9,14],[]⟩),
 (193,⟨[],[],[0,1,4,5,6,11,12,13,16,19],[]⟩),
 (194,⟨[],[],[0,1,4],[]⟩),
 (195,⟨[2],[2],[0,1,2,4,12],[]⟩),
 (196,⟨[],[],[0,2,3,4,9],[]⟩),
 (197,⟨[],[],[0,1,4,5,9,17],[]⟩),
 (198,⟨[],[],[0,2,5],[]⟩),
 (199,⟨[2],[2,6],[0,1,2,4,11],[]⟩),
 (200,⟨[1,2,3],[1,2,3,4,6,7,9,10,12,13,15,16,18],[0,1,2,3],[]⟩),
 (201,⟨[],[],[0,2],[]⟩),
 (202,⟨[],[],[0,1,4],[]⟩)]
def LT (f : FuncId) : FInfo := (LTl.lookup f).getD ⟨[],[],[],[]⟩
def ext0 : String → List Value → St → Option (Value × St) := fun name args st =>
 if name = "internal/bytealg.abigen_runtime_cmpstring" then (match args with
  | [.string a,.string b] => some (.int .i64 (Lib.compareBytes a.data.toList b.data.toList),st)
  | _ => none) else none
set_option maxRecDepth 100000 in
theorem ext0_ok : ExtOK Try.prog ext0 := by
 intro f fn args st v st' hf he ι w cargs hg hGL hrel hsz ha
 unfold ext0 at he
 split at he
 ·rename_i hname
  have hfn : fn = Try.f203 := by
   have hm : fn ∈ Try.prog.funcs.toList.filter fun g => g.name == "internal/bytealg.abigen_runtime_cmpstring" :=
    List.mem_filter.2 ⟨Array.mem_toList_iff.2 (Array.mem_of_getElem? hf),by rw [hname]; rfl⟩
   rw [show (Try.prog.funcs.toList.filter fun g => g.name == "internal/bytealg.abigen_runtime_cmpstring") = [Try.f203] from by kernel_rfl] at hm
   exact List.mem_singleton.1 hm
  subst hfn
  split at he
  ·rename_i a b
   injection he with he
   injection he with h1 h2
   subst h1 h2
   obtain ⟨y0,hy0,hv0⟩ := ha 0 _ rfl
   obtain ⟨y1,hy1,hv1⟩ := ha 1 _ rfl
   have hv0 : y0 = .string a := hv0
   have hv1 : y1 = .string b := hv1
   subst hv0 hv1
   have hc : cargs = #[.string a,.string b] := by
    obtain ⟨l⟩ := cargs
    match l,hsz,hy0,hy1 with
    | [x,y],_,h0,h1 =>
     simp at h0 h1
     rw [h0,h1]
   subst hc
   refine .inr ⟨_,ι,w,?_,hg,Goes.refl hrel,rfl⟩
   rw [run_callFunc_extern hf (by kernel_rfl) (by kernel_rfl) (by kernel_rfl) (e := Extern.BytealgCompare.compare) (by kernel_rfl),Lib.run_compareString]
   rfl
  ·cases he
 ·cases he
abbrev C (f : FuncId) (args : List Value) (st : St) (R : Value → St → Prop) : Prop := AC Try.prog LT ext0 f args st R
def ints (k : IntKind) (l : List Int) : List Value := l.map (Value.int k)
def Ints (st : St) (k : IntKind) (p : Option Addr) (l : List Int) : Prop := l.length = 0 ∨ ∃ b off blk,p = some ⟨b,off,none⟩ ∧ st.mem b = some blk ∧ b < st.next ∧ ∀ j < l.length,blk.cells[off + j * 1]? = some (.int k (l.getD j 0))
theorem Ints.at {st : St} {k : IntKind} {p : Option Addr} {l : List Int} (h : Ints st k p l) {j : Nat} (hj : j < l.length) : ∃ b off blk,p = some ⟨b,off,none⟩ ∧ st.mem b = some blk ∧ blk.cells[off + j * 1]? = some (.int k (l.getD j 0)) := by
 rcases h with h | ⟨b,off,blk,h1,h2,_,h3⟩
 ·omega
 ·exact ⟨b,off,blk,h1,h2,h3 j hj⟩
def Own (st : St) (k : IntKind) (p : Option Addr) (l : List Int) : Prop := (p = none ∧ l = []) ∨ ∃ a,p = some ⟨a,0,none⟩ ∧ a < st.next ∧ st.mem a = some ⟨true,1,ints k l⟩
theorem Own.ints {st : St} {k : IntKind} {p : Option Addr} {l : List Int} (h : Own st k p l) : Ints st k p l := by
 rcases h with ⟨rfl,rfl⟩ | ⟨a,rfl,ha,hm⟩
 ·exact .inl rfl
 ·refine .inr ⟨a,0,_,rfl,hm,ha,fun j hj => ?_⟩
  simp [AM.ints,List.getD_eq_getElem?_getD,List.getElem?_eq_getElem hj]
theorem Pres.ints {st st' : St} {k : IntKind} {p : Option Addr} {l : List Int} (h : Pres st st') (hi : Ints st k p l) : Ints st' k p l := by
 rcases hi with hi | ⟨b,off,blk,rfl,hm,hb,hc⟩
 ·exact .inl hi
 ·exact .inr ⟨b,off,blk,rfl,(h.2 b hb).trans hm,Nat.lt_of_lt_of_le hb h.1,hc⟩
theorem Pres.own {st st' : St} {k : IntKind} {p : Option Addr} {l : List Int} (h : Pres st st') (hi : Own st k p l) : Own st' k p l := by
 rcases hi with ⟨rfl,rfl⟩ | ⟨a,rfl,ha,hm⟩
 ·exact .inl ⟨rfl,rfl⟩
 ·exact .inr ⟨a,rfl,Nat.lt_of_lt_of_le ha h.1,(h.2 a ha).trans hm⟩
theorem wrap_i64 {i : Int} (h0 : -9223372036854775808 ≤ i) (h : i < 9223372036854775808) : IntKind.wrap .i64 i = i := by
 unfold IntKind.wrap; simp [IntKind.bits,IntKind.signed]; omega
section
variable {P : Program} {ls : List Tmp} {call : ACallT} {o : Oper} {e : Operand → Value} {lo : Lo} {st : St} {K : Value × Lo × St → Prop}
theorem Ints.take {k : IntKind} {b off : Nat} {l : List Int} {cs : List Value} (h : ∀ j < l.length,cs[off + j * 1]? = some (.int k (l.getD j 0))) : (cs.drop off).take (l.length * 1) = ints k l := by
 refine List.ext_getElem? fun j => ?_
 rw [List.getElem?_take]
 split
 ·rename_i hj
  rw [List.getElem?_drop]
  have := h j (by omega)
  rw [Nat.mul_one] at this
  rw [this]
  simp [ints,List.getD_eq_getElem?_getD,List.getElem?_eq_getElem (show j < l.length by omega)]
 ·rename_i hj
  rw [List.getElem?_eq_none]
  simp [ints]; omega
end
theorem Own.push {st : St} {k : IntKind} {l : List Int} : Own (st.push 1 (AM.ints k l)) k (some ⟨st.next,0,none⟩) l := .inr ⟨_,rfl,Nat.lt_succ_self _,by show (if st.next = st.next then _ else _ : Option Blk) = _; rw [if_pos rfl]⟩
theorem Own.r {st : St} {k : IntKind} {p : Option Addr} {l : List Int} : Own st k p l ↔ OwnR st 1 (fun x => [.int k x]) p l := by
 have : AM.ints k l = l.flatMap fun x => [Value.int k x] := by induction l with
  | nil => rfl
  | cons a l ih => rw [List.flatMap_cons,← ih]; rfl
 unfold Own OwnR
 rw [this]
abbrev fI : Int → List Value := fun x => [.int .i64 x]
theorem fI_len (x : Int) : (fI x).length = 1 := rfl
theorem OwnR.ints {st : St} {p : Option Addr} {l : List Int} (h : OwnR st 1 fI p l) : Ints st .i64 p l := (Own.r.2 h).ints
theorem Rows.ints {st : St} {k : IntKind} {p : Option Addr} {l : List Int} (h : Rows st 1 (fun x => [Value.int k x]) p l) : Ints st k p l := by
 rcases h with rfl | ⟨b,off,blk,rfl,hm,hb,hc⟩
 ·exact .inl rfl
 ·refine .inr ⟨b,off,blk,rfl,hm,hb,fun j hj => ?_⟩
  have h1 := hc j l[j] (List.getElem?_eq_getElem hj)
  have h2 := row_cell h1 (i := 0) rfl
  rw [Nat.add_zero] at h2
  rw [h2,List.getD_eq_getElem?_getD,List.getElem?_eq_getElem hj]
  rfl
set_option maxRecDepth 100000 in
theorem wt_bytes {L : LL} {us : List Value} (h : WT Try.prog Try.prog.globals.size 12 22 L us) : ∃ p l,us = [vS p l.length] ∧ Ints (stL Try.prog.globals.size L) .u8 p l ∧ l.length ≤ maxLen := by
 obtain ⟨p,l,h1,h2,h3,_⟩ := WT.rows (f := fun x => [Value.int .u8 x]) (Q := fun _ => True) Try.underlying22 (z := 1) (by kernel_rfl) (fun us h => by
  obtain ⟨n,h,_⟩ := WT.int Try.underlying5 h
  exact ⟨n,h,trivial⟩) h
 exact ⟨p,l,h1,h2.ints,h3⟩
end Go.Proofs.Yteabadoaeadcgaa.AM
namespace Go.Proofs.Yteabadoaeadcgaa.AM
open Go Go.Proofs
set_option linter.unusedVariables false
set_option linter.unusedSimpArgs false
set_option maxRecDepth 100000
set_option maxHeartbeats 4000000
theorem ac_spec_l1In (a lo hi : Int) (st : St) : C 76 [.int .i64 a,.int .i64 lo,.int .i64 hi] st (fun v s => ∃ x,v = .bool x ∧ x = decide (lo ≤ a ∧ a ≤ hi) ∧ s = st) := by
 refine AC.enter' (i := ⟨[],[],[0,1,2,6],[]⟩) Try.func76 rfl rfl (by kernel_rfl) Try.ntmps76 (Lb rfl) rfl (cw_sound _ _ _ _ _ ?_)
 repeat' first
  | refine ⟨.inr rfl,_,rfl,?_⟩
  | refine ⟨.inl rfl,_,rfl,?_⟩
  | refine ⟨_,rfl,?_⟩
  | rintro (_|_) h
 all_goals exact ⟨by simp_all <;> omega,rfl⟩
theorem ac_impl_within (a lo hi : Int) (st : St) : C 73 [.int .i64 a,.int .i64 lo,.int .i64 hi] st (fun v s => ∃ x,v = .bool x ∧ x = decide (lo ≤ a ∧ a ≤ hi) ∧ s = st) := by
 refine AC.enter' (i := ⟨[],[],[0,1,2,6],[]⟩) Try.func73 rfl rfl (by kernel_rfl) Try.ntmps73 (Lb rfl) rfl (cw_sound _ _ _ _ _ ?_)
 repeat' first
  | refine ⟨.inr rfl,_,rfl,?_⟩
  | refine ⟨.inl rfl,_,rfl,?_⟩
  | refine ⟨_,rfl,?_⟩
  | rintro (_|_) h
 all_goals exact ⟨by simp_all <;> omega,rfl⟩
theorem ac_spec_l1Max (a b : Int) (st : St) : C 78 [.int .i64 a,.int .i64 b] st (fun v s => v = .int .i64 (max a b) ∧ s = st) := by
 refine AC.enter' (i := ⟨[],[],[0,1,4,7],[]⟩) Try.func78 rfl rfl (by kernel_rfl) Try.ntmps78 (Lb rfl) rfl (cw_sound _ _ _ _ _ ?_)
 repeat' first
  | refine ⟨.inr rfl,_,rfl,?_⟩
  | refine ⟨.inl rfl,_,rfl,?_⟩
  | refine ⟨_,rfl,?_⟩
  | rintro (_|_) h
 all_goals exact ⟨congrArg (Value.int .i64) (by simp at h; simp only [Int.max_def]; split <;> omega),rfl⟩
theorem ac_laws_big (p : Option Addr) (n : Nat) (st : St) : C 13 [.slice p n n] st (fun v s => ∃ x,v = .bool x ∧ x = decide (1048576 < n) ∧ s = st) := by
 refine AC.enter' (i := ⟨[],[],[0,2],[]⟩) Try.func13 rfl rfl (by kernel_rfl) Try.ntmps13 (Lb rfl) rfl (cw_sound _ _ _ _ _ ?_)
 repeat' first
  | refine ⟨.inr rfl,_,rfl,?_⟩
  | refine ⟨.inl rfl,_,rfl,?_⟩
  | refine ⟨_,rfl,?_⟩
  | rintro (_|_) h
 all_goals exact ⟨by simp_all <;> omega,rfl⟩
structure Ent where
 inc : Int
 rank : Int
 beat : Int
 ver : Int
 data : ByteArray
structure Itm where
 id : Int
 e : Ent
structure Flr where
 id : Int
 inc : Int
structure Sta where
 items : List Itm
 floors : List Flr
abbrev cEnt (e : Ent) : List Value := [vI e.inc,vI e.rank,vI e.beat,vI e.ver,.string e.data]
abbrev cItm (x : Itm) : List Value := [vI x.id,vI x.e.inc,vI x.e.rank,vI x.e.beat,vI x.e.ver,.string x.e.data]
abbrev cFlr (x : Flr) : List Value := [vI x.id,vI x.inc]
structure SV where
 p : Option Addr
 q : Option Addr
 x : Sta
abbrev cSV (s : SV) : List Value := [vS s.p s.x.items.length,vS s.q s.x.floors.length]
def zEnt : Ent := ⟨0,0,0,0,⟨#[]⟩⟩
def szOk (n : Nat) : Prop := n ≤ 1048576
theorem toList_inj {a b : ByteArray} (h : a.toList = b.toList) : a = b := by
 rw [ByteArray.toList_eq,ByteArray.toList_eq] at h
 rw [ByteArray.ext_iff]
 exact Array.toList_inj.1 h
theorem beq_bytes {a b : ByteArray} : (a.toList == b.toList) = true ↔ a = b :=
 ⟨fun h => toList_inj (beq_iff_eq.1 h),fun h => by rw [h]; exact beq_self_eq_true _⟩
theorem str_ne {a b : ByteArray} (h : (!(a.toList == b.toList)) = true) : ¬ a = b := fun e => by rw [e] at h; simp at h
theorem str_eq {a b : ByteArray} (h : (!(a.toList == b.toList)) = false) : a = b := beq_bytes.1 (by cases h2 : (a.toList == b.toList) <;> simp_all)
theorem str_bne {a b : ByteArray} (h : (a.toList == b.toList) = false) : ¬ a = b := fun e => by rw [e] at h; simp at h
theorem b_ne {a b : Bool} (h : (!(a == b)) = true) : ¬ a = b := by cases a <;> cases b <;> simp_all
theorem ld_lt {ρ : Tm} {o : Op} {t0 : TypeId} {x0 : Operand} {q : Addr} {n0 : Nat → Prop} (ho : o = .load t0 x0) (hx : ev ρ x0 = .pointer (some q)) (hb : n0 q.block) : ldChk n0 o (ev ρ) := by
 subst ho
 intro t x h p hp _
 injection h with h1 h2
 rw [← h2,hx] at hp
 injection hp with hp
 injection hp with hp
 rw [← hp]; exact hb
theorem ld_own {ρ : Tm} {o : Op} {t0 : TypeId} {x0 : Operand} {q : Addr} {n0 : Nat → Prop} {g : Nat} (ho : o = .load t0 x0) (hx : ev ρ x0 = .pointer (some q)) (hs : q.spot = some g) : ldChk n0 o (ev ρ) := by
 subst ho
 intro t x h p hp h0
 injection h with h1 h2
 rw [← h2,hx] at hp
 injection hp with hp
 injection hp with hp
 rw [← hp,hs] at h0
 cases h0
theorem AC.tru {f : FuncId} {args : List Value} {st : St} {P : Prop} (h : C f args st (fun v s => ∃ x,v = .bool x ∧ (x = true ↔ P) ∧ s = st)) (hp : P) : C f args st (fun v s => v = vB true ∧ s = st) :=
 AC.mono h fun v s ⟨x,h1,h2,h3⟩ => ⟨by rw [h1,h2.2 hp],h3⟩
theorem Rows.atB {α : Type} {st : St} {z : Nat} {f : α → List Value} {p : Option Addr} {l : List α} (h : Rows st z f p l) {j : Nat} (hj : j < l.length) : ∃ b off blk x,p = some ⟨b,off,none⟩ ∧ l[j]? = some x ∧ st.mem b = some blk ∧ (blk.cells.drop (off + j * z)).take z = f x ∧ b < st.next := by
 rcases h with rfl | ⟨b,off,blk,h1,h2,hb,h3⟩
 ·cases hj
 ·exact ⟨b,off,blk,l[j],h1,List.getElem?_eq_getElem hj,h2,h3 j _ (List.getElem?_eq_getElem hj),hb⟩
theorem iff_lists {α : Type} {a b : List α} (hl : a.length = b.length) (h : ∀ (i : Nat) x y,i < a.length → a[i]? = some x → b[i]? = some y → x = y) : a = b := by
 refine List.ext_getElem hl fun n h1 h2 => h n _ _ h1 (List.getElem?_eq_getElem h1) (List.getElem?_eq_getElem h2)
section
variable {P : Program} {ls : List Tmp} {call : ACallT} {o : Oper} {e : Operand → Value} {lo : Lo} {st : St} {K : Value × Lo × St → Prop} {α : Type} {f : α → List Value} {z : Nat}
theorem op_el {t el : TypeId} {x i : Operand} {p : Option Addr} {l : List α} {n c : Nat} {k : IntKind} {j : Int} {y : α} (i' : Nat) (hR : Rows st z f p l) (hy : l[i']? = some y) (ho : o.op = .indexAddr t x i) (hx : e x = .slice p n c) (hi : e i = .int k j) (hn : n = l.length) (hj : j = (i' : Int)) (ht : telem P t = some el) (hz : tsize P el = some z)
  (hK : ∀ b d blk,b < st.next → st.mem b = some blk → (blk.cells.drop d).take z = f y → (∃ o,p = some ⟨b,o,none⟩) → K (.pointer (some ⟨b,d,none⟩),lo,st)) : ∃ r,aoper P ls call o e lo st = some r ∧ K r := by
 obtain ⟨hlt,_⟩ := List.getElem?_eq_some_iff.1 hy
 rcases hR with rfl | ⟨b,off,blk,h1,h2,hb,h3⟩
 ·cases hlt
 ·subst hn hj
  refine ⟨_,op_idx (q := ⟨b,off,none⟩) ho (hx.trans (by rw [h1])) hi ht hz (Int.natCast_nonneg _) (Int.ofNat_lt.2 hlt),?_⟩
  exact hK b (off + i' * z) blk hb h2 (h3 i' y hy) ⟨off,h1⟩
theorem op_at {t el : TypeId} {x i : Operand} {p : Option Addr} {l : List α} {n c : Nat} {k : IntKind} {j : Int} (i' : Nat) (hR : Rows st z f p l) (hlt : i' < l.length) (ho : o.op = .indexAddr t x i) (hx : e x = .slice p n c) (hi : e i = .int k j) (hn : n = l.length) (hj : j = (i' : Int)) (ht : telem P t = some el) (hz : tsize P el = some z)
  (hK : ∀ y b d blk,l[i']? = some y → b < st.next → st.mem b = some blk → (blk.cells.drop d).take z = f y → (∃ o,p = some ⟨b,o,none⟩) → K (.pointer (some ⟨b,d,none⟩),lo,st)) : ∃ r,aoper P ls call o e lo st = some r ∧ K r :=
 op_el i' hR (List.getElem?_eq_getElem hlt) ho hx hi hn hj ht hz fun b d blk => hK _ b d blk (List.getElem?_eq_getElem hlt)
end
section
variable {P : Program} {ls : List Tmp} {call : ACallT} {o : Oper} {e : Operand → Value} {lo : Lo} {st : St} {K : Value × Lo × St → Prop} {α : Type} {f : α → List Value} {z : Nat}
theorem op_snoc {c : Call} {t el : TypeId} {ov ox : Operand} {p : Option Addr} {l : List α} {x : α} {n b : Nat} {z0 : List Value}
  (hat : c.argTypes.toList = [t,t]) (har : c.args.toList = [ov,ox]) (he : telem P t = some el) (hzz : tsize P el = some z) (hb : tbytes P el = some b) (hz0 : tzero P el = some z0) (hz1 : z0.length = z) (h0 : 0 < z) (hz : ∀ x,(f x).length = z)
  (hov : e ov = .slice p n n) (hox : e ox = .slice (some ⟨st.next,0,none⟩) 1 1) (hn : n = l.length) (hl : (l.length + 1) * b ≤ 140737488355328) (hml : l.length + 1 ≤ maxLen)
  (hown : OwnR st z f p l)
  (hK : ∀ q st',OwnR st' z f q (l ++ [x]) → Pr p st st' → New st.next q → K (.slice q (l ++ [x]).length (l ++ [x]).length,lo,st')) : ∃ r,aappend P c e lo (st.push z ([x].flatMap f)) = some r ∧ K r := by
 subst hn
 refine op_add hat har he hzz hb hz0 hz1 h0 hz hov hox rfl hl hml hown fun q st' h1 h2 h3 => ?_
 have := hK q st' h1 h2 h3
 rw [List.length_append] at this
 exact this
theorem op_cat' {c : Call} {t el : TypeId} {ov ox : Operand} {p q : Option Addr} {l l2 : List α} {n m b : Nat} {z0 : List Value}
  (hat : c.argTypes.toList = [t,t]) (har : c.args.toList = [ov,ox]) (he : telem P t = some el) (hzz : tsize P el = some z) (hb : tbytes P el = some b) (hz0 : tzero P el = some z0) (hz1 : z0.length = z) (h0 : 0 < z) (hz : ∀ x,(f x).length = z)
  (hov : e ov = .slice p n n) (hox : e ox = .slice q m m) (hn : n = l.length) (hm : m = l2.length) (hl : (l.length + l2.length) * b ≤ 140737488355328) (hml : l.length + l2.length ≤ maxLen)
  (hown : OwnR st z f p l) (hint : Rows st z f q l2)
  (hK : ∀ q st',OwnR st' z f q (l ++ l2) → Pr p st st' → (q = p ∧ l2 = [] ∧ st' = st ∨ 0 < l2.length ∧ New st.next q) → K (.slice q (l ++ l2).length (l ++ l2).length,lo,st')) : ∃ r,aappend P c e lo st = some r ∧ K r := by
 subst hn hm
 refine op_app hat har he hzz hb hz0 hz1 h0 hz hov hox rfl rfl hl hml hown hint fun q st' h1 h2 h3 => ?_
 have := hK q st' h1 h2 h3
 rw [List.length_append] at this
 exact this
end
theorem ow_cut {P : Program} {LT : FuncId → FInfo} {ext : String → List Value → St → Option (Value × St)} {ls : List Tmp} {ops : Array Oper} {os : List Oper} {ρ : Tm} {lo : Lo} {st : St} {K : Tm → Lo → St → Prop} (L : List (Nat × Value)) (h : Has ρ L) (hK : ∀ ρ0,ow P LT ext ls ops os (ov L ρ0) lo st K) : ow P LT ext ls ops os ρ lo st K := by
 rw [ov_has h]; exact hK ρ
theorem owE_cut {P : Program} {LT : FuncId → FInfo} {ext : String → List Value → St → Option (Value × St)} {ls : List Tmp} {ops : Array Oper} {n0 : Nat → Prop} {fl ld sx : List Nat} {os : List Oper} {j : Nat} {ρ : Tm} {lo : Lo} {st : St} {K : Tm → Lo → St → Prop} (L : List (Nat × Value)) (h : Has ρ L) (hK : ∀ ρ0,owE P LT ext ls ops n0 fl ld sx os j (ov L ρ0) lo st K) : owE P LT ext ls ops n0 fl ld sx os j ρ lo st K := by
 rw [ov_has h]; exact hK ρ
theorem splice_all : ∀ (vs cs : List Value),cs.length = vs.length → splice cs 0 vs = vs := fun vs cs h => by
 have := splice_eq vs [] cs h
 simpa using this
theorem op_stw {P : Program} {ls : List Tmp} {call : ACallT} {o : Oper} {e : Operand → Value} {lo : Lo} {st : St} {t : TypeId} {x u : Operand} {b g : Nat} {cs vs : List Value} {v : Value} (ho : o.op = .store t x u) (hx : e x = .pointer (some ⟨b,0,some g⟩)) (hu : e u = v) (hv : v.cells.toList = vs) (hl : lo.loc b = some (g,cs)) (hz : tsize P t = some vs.length) (hi : vs.all isCell = true) (hb : cs.length = vs.length) : aoper P ls call o e lo st = some (undef,lo.set b g vs,st) := by
 obtain ⟨d,op,ty,pos,after,gd⟩ := o
 simp only at ho
 subst ho hv hu
 have hc : (tsize P t) = some (e u).cells.toList.length ∧ ((e u).cells.toList.all isCell = true) := ⟨hz,hi⟩
 simp only [aoper,astore,hx,hl]
 rw [if_pos hc,if_pos ⟨trivial,by omega⟩,splice_all _ _ hb]
theorem Rows.lt {α : Type} {st : St} {z : Nat} {f : α → List Value} {p : Option Addr} {l : List α} {i b : Nat} {y : α} (h : Rows st z f p l) (hy : l[i]? = some y) (hp : ∃ o,p = some ⟨b,o,none⟩) : b < st.next := by
 obtain ⟨o,hp⟩ := hp
 rcases h with rfl | ⟨b',off,blk,h1,_,hb,_⟩
 ·cases hy
 ·rw [hp] at h1
  injection h1 with h1
  injection h1 with h1 _ _
  rw [h1]; exact hb
theorem sub_row {cs r q : List Value} {d z : Nat} (i n : Nat) (hc : (cs.drop d).take z = r) (hq : (r.drop i).take n = q) (hle : i + n ≤ z) : (cs.drop (d + i)).take n = q := by
 subst hc hq
 rw [List.drop_take,List.take_take,List.drop_drop,Nat.min_eq_left (by omega)]
end Go.Proofs.Yteabadoaeadcgaa.AM
namespace Go.Proofs.Yteabadoaeadcgaa.AM
open Go Go.Proofs
set_option linter.unusedVariables false
set_option linter.unusedSimpArgs false
structure Pc where
 z : Nat
 p : Option Addr
 cs : List Value
def Pc.own (st : St) (c : Pc) : Prop := (c.p = none ∧ c.cs = []) ∨ ∃ a,c.p = some ⟨a,0,none⟩ ∧ a < st.next ∧ st.mem a = some ⟨true,c.z,c.cs⟩
abbrev pcR {α : Type} (z : Nat) (f : α → List Value) (p : Option Addr) (l : List α) : Pc := ⟨z,p,l.flatMap f⟩
theorem own_pc {α : Type} {st : St} {z : Nat} {f : α → List Value} {p : Option Addr} {l : List α} (h : OwnR st z f p l) : (pcR z f p l).own st := by
 rcases h with ⟨rfl,rfl⟩ | h
 ·exact .inl ⟨rfl,rfl⟩
 ·exact .inr h
theorem pc_own {α : Type} {st : St} {z : Nat} {f : α → List Value} {p : Option Addr} {l : List α} (h0 : 0 < z) (hz : ∀ x,(f x).length = z) (h : (pcR z f p l).own st) : OwnR st z f p l := by
 rcases h with ⟨h1,h2⟩ | h
 ·refine .inl ⟨h1,?_⟩
  have h3 := flat_len hz l
  have h2 : l.flatMap f = [] := h2
  rw [h2,List.length_nil] at h3
  have : l.length = 0 := by
   rcases Nat.eq_zero_or_pos l.length with h | h
   ·exact h
   ·have := Nat.mul_pos h h0; omega
  exact List.length_eq_zero_iff.1 this
 ·exact .inr h
def PrL (ps : List (Option Addr)) (st st' : St) : Prop := st.next ≤ st'.next ∧ ∀ a,a < st.next → (∀ p ∈ ps,∀ q,p = some q → a ≠ q.block) → st'.mem a = st.mem a
def OwnP (st : St) (l : List Pc) : Prop := (∀ c ∈ l,c.own st) ∧ l.Pairwise fun a b => Dis a.p b.p
def NewP (n : Nat) (l : List Pc) : Prop := ∀ c ∈ l,New n c.p
theorem Pc.own.old {st : St} {c : Pc} (h : c.own st) : Old st.next c.p := by
 rcases h with ⟨h,_⟩ | ⟨a,h,ha,_⟩
 ·rw [h]; exact Old.none
 ·rw [h]; exact Old.some ha
theorem Pc.own.keep {st st' : St} {c : Pc} (h : c.own st) (hn : st.next ≤ st'.next) (hm : ∀ q,c.p = some q → st'.mem q.block = st.mem q.block) : c.own st' := by
 rcases h with h | ⟨a,h1,ha,h2⟩
 ·exact .inl h
 ·exact .inr ⟨a,h1,Nat.lt_of_lt_of_le ha hn,(hm _ h1).trans h2⟩
theorem PrL.refl (ps : List (Option Addr)) (st : St) : PrL ps st st := ⟨Nat.le_refl _,fun _ _ _ => rfl⟩
theorem PrL.trans {ps : List (Option Addr)} {a b c : St} (h : PrL ps a b) (k : PrL ps b c) : PrL ps a c := ⟨Nat.le_trans h.1 k.1,fun x hx hn => (k.2 x (Nat.lt_of_lt_of_le hx h.1) hn).trans (h.2 x hx hn)⟩
theorem Pr.l {p : Option Addr} {st st' : St} (h : Pr p st st') {ps : List (Option Addr)} (hp : p ∈ ps) : PrL ps st st' := ⟨h.1,fun a ha hn => h.2 a ha (hn p hp)⟩
theorem Pres.l {ps : List (Option Addr)} {st st' : St} (h : Pres st st') : PrL ps st st' := ⟨h.1,fun a ha _ => h.2 a ha⟩
theorem PrL.mono {ps qs : List (Option Addr)} {st st' : St} (h : PrL ps st st') (hs : ∀ p ∈ ps,p ∈ qs) : PrL qs st st' := ⟨h.1,fun a ha hn => h.2 a ha fun p hp => hn p (hs p hp)⟩
theorem PrL.pres {ps : List (Option Addr)} {st0 st st' : St} (h : PrL ps st st') (h0 : Pres st0 st) (hn : ∀ p ∈ ps,New st0.next p) : Pres st0 st' :=
 ⟨Nat.le_trans h0.1 h.1,fun a ha => (h.2 a (Nat.lt_of_lt_of_le ha h0.1) fun p hp q hq => by have := hn p hp q hq; omega).trans (h0.2 a ha)⟩
theorem OwnP.nil {st : St} : OwnP st [] := ⟨fun c hc => (by cases hc),List.Pairwise.nil⟩
theorem NewP.nil {n : Nat} : NewP n [] := fun c hc => by cases hc
theorem NewP.le {n m : Nat} {l : List Pc} (h : NewP m l) (hn : n ≤ m) : NewP n l := fun c hc => (h c hc).le hn
theorem NewP.cons {n : Nat} {c : Pc} {l : List Pc} (h : New n c.p) (k : NewP n l) : NewP n (c :: l) := fun d hd => by
 rcases List.mem_cons.1 hd with rfl | hd
 ·exact h
 ·exact k d hd
theorem NewP.app {n : Nat} {l m : List Pc} (h : NewP n l) (k : NewP n m) : NewP n (l ++ m) := fun d hd => by
 rcases List.mem_append.1 hd with hd | hd
 ·exact h d hd
 ·exact k d hd
theorem OwnP.keep {st st' : St} {l : List Pc} (h : OwnP st l) (hn : st.next ≤ st'.next) (hm : ∀ c ∈ l,∀ q,c.p = some q → st'.mem q.block = st.mem q.block) : OwnP st' l := ⟨fun c hc => (h.1 c hc).keep hn (hm c hc),h.2⟩
theorem OwnP.pres {st st' : St} {l : List Pc} (h : OwnP st l) (hp : Pres st st') : OwnP st' l := h.keep hp.1 fun c hc q hq => hp.2 _ ((h.1 c hc).old q hq)
theorem OwnP.prl {st st' : St} {l : List Pc} {ps : List (Option Addr)} (h : OwnP st l) (hp : PrL ps st st') (hd : ∀ c ∈ l,∀ p ∈ ps,Dis p c.p) : OwnP st' l := h.keep hp.1 fun c hc q hq => hp.2 _ ((h.1 c hc).old q hq) fun p hp r hr he => hd c hc p hp r q hr hq he.symm
theorem OwnP.app {st : St} {l m : List Pc} (h : OwnP st l) (k : OwnP st m) (hd : ∀ a ∈ l,∀ b ∈ m,Dis a.p b.p) : OwnP st (l ++ m) :=
 ⟨fun c hc => by
  rcases List.mem_append.1 hc with hc | hc
  ·exact h.1 c hc
  ·exact k.1 c hc,List.pairwise_append.2 ⟨h.2,k.2,hd⟩⟩
theorem OwnP.join {st st' : St} {l m : List Pc} (h : OwnP st l) (hp : Pres st st') (k : OwnP st' m) (hn : NewP st.next m) : OwnP st' (l ++ m) :=
 (h.pres hp).app k fun a ha b hb => Dis.of (h.1 a ha).old (hn b hb)
theorem OwnP.one {st : St} {c : Pc} (h : c.own st) : OwnP st [c] := ⟨fun d hd => by rw [List.mem_singleton.1 hd]; exact h,List.pairwise_singleton _ _⟩
theorem OwnP.left {st : St} {l m : List Pc} (h : OwnP st (l ++ m)) : OwnP st l := ⟨fun c hc => h.1 c (List.mem_append_left _ hc),(List.pairwise_append.1 h.2).1⟩
theorem OwnP.right {st : St} {l m : List Pc} (h : OwnP st (l ++ m)) : OwnP st m := ⟨fun c hc => h.1 c (List.mem_append_right _ hc),(List.pairwise_append.1 h.2).2.1⟩
theorem OwnP.tail {st : St} {c : Pc} {m : List Pc} (h : OwnP st (c :: m)) : OwnP st m := OwnP.right (l := [c]) h
theorem OwnP.update {st st' : St} {l m : List Pc} {c d : Pc} (h : OwnP st (l ++ c :: m)) (hp : Pr c.p st st') (hd : d.own st') (he : d.p = c.p) : OwnP st' (l ++ d :: m) := by
 obtain ⟨h1,h2⟩ := h
 obtain ⟨p1,p2,p3⟩ := List.pairwise_append.1 h2
 obtain ⟨p4,p5⟩ := List.pairwise_cons.1 p2
 have key : ∀ e ∈ l ++ c :: m,Dis c.p e.p → e.own st' := fun e hm hdis => (h1 e hm).keep hp.1 fun q hq => hp.2 _ ((h1 e hm).old q hq) fun r hr hne => hdis r q hr hq hne.symm
 refine ⟨fun e he' => ?_,List.pairwise_append.2 ⟨p1,List.pairwise_cons.2 ⟨fun a ha => by rw [he]; exact p4 a ha,p5⟩,fun a ha b hb => ?_⟩⟩
 ·rcases List.mem_append.1 he' with hm | hm
  ·exact key e (List.mem_append_left _ hm) (p3 e hm c (List.mem_cons_self ..)).symm
  ·rcases List.mem_cons.1 hm with rfl | hm
   ·exact hd
   ·exact key e (List.mem_append_right _ (List.mem_cons_of_mem _ hm)) (p4 e hm)
 ·rcases List.mem_cons.1 hb with rfl | hb
  ·rw [he]; exact p3 a ha c (List.mem_cons_self ..)
  ·exact p3 a ha b (List.mem_cons_of_mem _ hb)
theorem OwnP.renew {st st' : St} {l m : List Pc} {c d : Pc} (h : OwnP st (l ++ c :: m)) (hp : Pr c.p st st') (hd : d.own st') (hn : New st.next d.p) : OwnP st' (l ++ d :: m) := by
 obtain ⟨h1,h2⟩ := h
 obtain ⟨p1,p2,p3⟩ := List.pairwise_append.1 h2
 obtain ⟨p4,p5⟩ := List.pairwise_cons.1 p2
 have key : ∀ e ∈ l ++ c :: m,Dis c.p e.p → e.own st' := fun e hm hdis => (h1 e hm).keep hp.1 fun q hq => hp.2 _ ((h1 e hm).old q hq) fun r hr hne => hdis r q hr hq hne.symm
 refine ⟨fun e he' => ?_,List.pairwise_append.2 ⟨p1,List.pairwise_cons.2 ⟨fun a ha => (Dis.of (h1 a (List.mem_append_right _ (List.mem_cons_of_mem _ ha))).old hn).symm,p5⟩,fun a ha b hb => ?_⟩⟩
 ·rcases List.mem_append.1 he' with hm | hm
  ·exact key e (List.mem_append_left _ hm) (p3 e hm c (List.mem_cons_self ..)).symm
  ·rcases List.mem_cons.1 hm with rfl | hm
   ·exact hd
   ·exact key e (List.mem_append_right _ (List.mem_cons_of_mem _ hm)) (p4 e hm)
 ·rcases List.mem_cons.1 hb with rfl | hb
  ·exact Dis.of (h1 a (List.mem_append_left _ ha)).old hn
  ·exact p3 a ha b (List.mem_cons_of_mem _ hb)
structure RV where
 p : Option Addr
 l : List Int
abbrev cRV (r : RV) : List Value := [vS r.p r.l.length]
abbrev pcRV (r : RV) : Pc := pcR 1 fI r.p r.l
abbrev pcT (p : Option Addr) (t : List RV) : List Pc := pcR 1 cRV p t :: t.map pcRV
abbrev rls (t : List RV) : List (List Int) := t.map (·.l)
theorem cRV_len (r : RV) : (cRV r).length = 1 := rfl
def RdT (st : St) (p : Option Addr) (t : List RV) : Prop := Rows st 1 cRV p t ∧ ∀ r ∈ t,Rows st 1 fI r.p r.l
theorem RdT.pres {st st' : St} {p : Option Addr} {t : List RV} (h : RdT st p t) (k : Pres st st') : RdT st' p t := ⟨k.rows h.1,fun r hr => k.rows (h.2 r hr)⟩
theorem OwnP.row {st : St} {p : Option Addr} {t : List RV} (h : OwnP st (pcT p t)) {r : RV} (hr : r ∈ t) : OwnR st 1 fI r.p r.l := pc_own Nat.one_pos fI_len (h.1 _ (List.mem_cons_of_mem _ (List.mem_map_of_mem hr)))
end Go.Proofs.Yteabadoaeadcgaa.AM
namespace Go.Proofs.Yteabadoaeadcgaa.AM
open Go Go.Proofs
set_option linter.unusedVariables false
set_option linter.unusedSimpArgs false
set_option maxRecDepth 100000
set_option maxHeartbeats 4000000
theorem len_cFlr (x : Flr) : (cFlr x).length = 2 := rfl
theorem len_cItm (x : Itm) : (cItm x).length = 6 := rfl
theorem ac_spec_l3Node (id : Int) (st : St) : C 111 [vI id] st (fun v s => ∃ x,v = .bool x ∧ x = decide (0 ≤ id ∧ id ≤ 4) ∧ s = st) := by
 refine AC.enterX (i := ⟨[],[],[0,2],[]⟩) [] Try.func111 rfl rfl (by kernel_rfl) (by kernel_rfl) Try.ntmps111 (Lb rfl) rfl ?_
 refine Cu lo0 st [(0,vI id),(2,vB false)] fun _ => ?_
 refine ⟨_,rfl,(ac_spec_l1In id 0 4 st).mono ?_⟩
 rintro _ st ⟨x,rfl,hx,rfl⟩
 exact cxs (Rt ⟨x,rfl,hx,rfl⟩)
theorem ac_impl_isNode (id : Int) (st : St) : C 116 [vI id] st (fun v s => ∃ x,v = .bool x ∧ x = decide (0 ≤ id ∧ id ≤ 4) ∧ s = st) := by
 refine AC.enterX (i := ⟨[],[],[0,2],[]⟩) [] Try.func116 rfl rfl (by kernel_rfl) (by kernel_rfl) Try.ntmps116 (Lb rfl) rfl ?_
 refine Cu lo0 st [(0,vI id),(2,vB false)] fun _ => ?_
 refine ⟨_,rfl,(ac_impl_within id 0 4 st).mono ?_⟩
 rintro _ st ⟨x,rfl,hx,rfl⟩
 exact cxs (Rt ⟨x,rfl,hx,rfl⟩)
def markOk (l : List Flr) (j : Nat) (x : Flr) : Prop := (0 ≤ x.id ∧ x.id ≤ 4) ∧ (1 ≤ x.inc ∧ x.inc ≤ 1000) ∧ ∀ y,0 < j → l[j - 1]? = some y → y.id < x.id
def marksOk (l : List Flr) : Prop := ∀ (j : Nat) x,l[j]? = some x → markOk l j x
theorem ac_spec_MarksOk (p : Option Addr) (l : List Flr) (st : St) (hR : Rows st 2 cFlr p l) (hs : szOk l.length) : C 77 [vS p l.length] st (fun v s => ∃ x,v = .bool x ∧ (x = true ↔ marksOk l) ∧ s = st) := by
 have hs : l.length ≤ 1048576 := hs
 refine AC.enterX (i := ⟨[],[],[0,2,3,7,43],[]⟩) [(4,[],[])] Try.func77 rfl rfl (by kernel_rfl) (by kernel_rfl) Try.ntmps77 (Lb rfl) rfl ?_
 refine cxs ?_
 refine Cu lo0 st [(0,vS p l.length),(2,vB false),(3,vI 0)] fun _ => ?_
 refine AW.loop0 (fun i : Nat => [(0,vS p l.length),(3,vI (i : Int))]) (fun m (i : Nat) st' => m = l.length - i ∧ i ≤ l.length ∧ (∀ (j : Nat) x,j < i → l[j]? = some x → markOk l j x) ∧ st = st') 0 _ ⟨rfl,rfl,trivial⟩ rfl ⟨rfl,Nat.zero_le _,fun j x h => absurd h (Nat.not_lt_zero _),rfl⟩ ?_
 rintro m i ρ0 st' ⟨rfl,hi,hok,rfl⟩
 iterate 2 refine ⟨_,rfl,?_⟩
 rintro (_|_) h1
 ·replace h1 : ¬ ((i : Int) < (l.length : Int)) := of_decide_eq_false h1
  refine Cu lo0 st [(0,vS p l.length),(3,vI (i : Int)),(7,vB false)] fun _ => ?_
  refine cxs ?_
  exact cxs (Rt ⟨true,rfl,⟨fun _ j x hx => hok j x (by have := (List.getElem?_eq_some_iff.1 hx).1; omega) hx,fun _ => rfl⟩,rfl⟩)
 ·replace h1 : (i : Int) < (l.length : Int) := of_decide_eq_true h1
  refine Cu lo0 st [(0,vS p l.length),(3,vI (i : Int)),(7,vB true)] fun _ => ?_
  have h1' := Int.ofNat_lt.1 h1
  have ⟨b1,o1,k1,x,hpe,hx,hm1,hc1,hb1⟩ := hR.atB h1'
  refine cxs ?_
  refine ⟨_,op_idx (j := (i : Int)) (n := l.length) (q := ⟨b1,o1,none⟩) rfl (congrArg (fun u => vS u l.length) hpe) rfl rfl rfl (Int.natCast_nonneg _) h1,?_⟩
  refine ⟨_,rfl,?_⟩
  refine ⟨_,op_ldc (i := 0) rfl rfl rfl rfl hm1 hc1 rfl rfl,?_⟩
  refine ⟨_,rfl,(ac_spec_l3Node x.id st).mono ?_⟩
  rintro _ st ⟨c,rfl,h2,rfl⟩
  rcases c with _|_
  ·replace h2 := of_decide_eq_false h2.symm
   iterate 3 refine ⟨_,rfl,?_⟩
   refine Cu lo0 st [(0,vS p l.length),(3,vI (i : Int)),(7,vB true),(43,vB true)] fun _ => ?_
   exact cxs (Rt ⟨false,rfl,⟨fun h => absurd h Bool.false_ne_true,fun h => absurd (h i x hx).1 h2⟩,rfl⟩)
  ·replace h2 := of_decide_eq_true h2.symm
   iterate 2 refine ⟨_,rfl,?_⟩
   rintro (_|_) h3
   ·replace h3 : ¬ (0 < (i : Int)) := of_decide_eq_false h3
    iterate 2 refine ⟨_,rfl,?_⟩
    refine ⟨_,op_idx (j := (i : Int)) (n := l.length) (q := ⟨b1,o1,none⟩) rfl (congrArg (fun u => vS u l.length) hpe) rfl rfl rfl (Int.natCast_nonneg _) h1,?_⟩
    refine ⟨_,rfl,?_⟩
    refine ⟨_,op_ldc (i := 1) rfl rfl rfl rfl hm1 hc1 rfl rfl,?_⟩
    refine ⟨_,rfl,(ac_spec_l1In x.inc 1 1000 st).mono ?_⟩
    rintro _ st ⟨d,rfl,h5,rfl⟩
    rcases d with _|_
    ·replace h5 := of_decide_eq_false h5.symm
     iterate 2 refine ⟨_,rfl,?_⟩
     refine Cu lo0 st [(0,vS p l.length),(3,vI (i : Int)),(7,vB true),(43,vB true)] fun _ => ?_
     exact cxs (Rt ⟨false,rfl,⟨fun h => absurd h Bool.false_ne_true,fun h => absurd (h i x hx).2.1 h5⟩,rfl⟩)
    ·replace h5 := of_decide_eq_true h5.symm
     iterate 2 refine ⟨_,rfl,?_⟩
     refine Cu lo0 st [(0,vS p l.length),(3,vI (i : Int)),(7,vB true),(43,vB false)] fun _ => ?_
     refine cxs ?_
     have e9 : IntKind.wrap .i64 ((i : Int) + 1) = ((i + 1 : Nat) : Int) := (wrap_i64 (by omega) (by omega)).trans (by omega)
     refine ⟨_,rfl,?_⟩
     refine ⟨i + 1,l.length - (i + 1),by omega,⟨rfl,congrArg (Value.int .i64) e9,trivial⟩,rfl,rfl,h1',fun j u hj hu => ?_,rfl⟩
     rcases Nat.lt_or_ge j i with h | h
     ·exact hok j u h hu
     ·obtain rfl : j = i := by omega
      rw [hx] at hu
      injection hu with hu
      subst hu
      exact ⟨h2,h5,fun y h0 hy => absurd h0 (by omega)⟩
   ·replace h3 : 0 < (i : Int) := of_decide_eq_true h3
    have ⟨b2,o2,k2,y,hqe,hy,hm2,hc2,hb2⟩ := hR.atB (j := i - 1) (by omega)
    have e28 : IntKind.wrap .i64 ((i : Int) - 1) = ((i - 1 : Nat) : Int) := (wrap_i64 (by omega) (by omega)).trans (by omega)
    refine ⟨_,op_idx (j := (i : Int)) (n := l.length) (q := ⟨b1,o1,none⟩) rfl (congrArg (fun u => vS u l.length) hpe) rfl rfl rfl (Int.natCast_nonneg _) h1,?_⟩
    refine ⟨_,rfl,?_⟩
    refine ⟨_,op_ldc (i := 0) rfl rfl rfl rfl hm1 hc1 rfl rfl,?_⟩
    refine ⟨_,rfl,?_⟩
    refine ⟨_,op_idx (j := ((i - 1 : Nat) : Int)) (n := l.length) (q := ⟨b2,o2,none⟩) rfl (congrArg (fun u => vS u l.length) hqe) (congrArg (Value.int .i64) e28) rfl rfl (Int.natCast_nonneg _) (by omega),?_⟩
    refine ⟨_,rfl,?_⟩
    refine ⟨_,op_ldc (i := 0) rfl rfl rfl rfl hm2 hc2 rfl rfl,?_⟩
    refine ⟨_,rfl,?_⟩
    rintro (_|_) h4
    ·replace h4 : ¬ (x.id ≤ y.id) := of_decide_eq_false h4
     iterate 2 refine ⟨_,rfl,?_⟩
     refine ⟨_,op_idx (j := (i : Int)) (n := l.length) (q := ⟨b1,o1,none⟩) rfl (congrArg (fun u => vS u l.length) hpe) rfl rfl rfl (Int.natCast_nonneg _) h1,?_⟩
     refine ⟨_,rfl,?_⟩
     refine ⟨_,op_ldc (i := 1) rfl rfl rfl rfl hm1 hc1 rfl rfl,?_⟩
     refine ⟨_,rfl,(ac_spec_l1In x.inc 1 1000 st).mono ?_⟩
     rintro _ st ⟨d,rfl,h5,rfl⟩
     rcases d with _|_
     ·replace h5 := of_decide_eq_false h5.symm
      iterate 2 refine ⟨_,rfl,?_⟩
      refine Cu lo0 st [(0,vS p l.length),(3,vI (i : Int)),(7,vB true),(43,vB true)] fun _ => ?_
      exact cxs (Rt ⟨false,rfl,⟨fun h => absurd h Bool.false_ne_true,fun h => absurd (h i x hx).2.1 h5⟩,rfl⟩)
     ·replace h5 := of_decide_eq_true h5.symm
      iterate 2 refine ⟨_,rfl,?_⟩
      refine Cu lo0 st [(0,vS p l.length),(3,vI (i : Int)),(7,vB true),(43,vB false)] fun _ => ?_
      refine cxs ?_
      have e9 : IntKind.wrap .i64 ((i : Int) + 1) = ((i + 1 : Nat) : Int) := (wrap_i64 (by omega) (by omega)).trans (by omega)
      refine ⟨_,rfl,?_⟩
      refine ⟨i + 1,l.length - (i + 1),by omega,⟨rfl,congrArg (Value.int .i64) e9,trivial⟩,rfl,rfl,h1',fun j u hj hu => ?_,rfl⟩
      rcases Nat.lt_or_ge j i with h | h
      ·exact hok j u h hu
      ·obtain rfl : j = i := by omega
       rw [hx] at hu
       injection hu with hu
       subst hu
       refine ⟨h2,h5,fun z h0 hz => ?_⟩
       rw [hy] at hz
       injection hz with hz
       subst hz
       exact Int.not_le.1 h4
    ·replace h4 : x.id ≤ y.id := of_decide_eq_true h4
     iterate 3 refine ⟨_,rfl,?_⟩
     refine Cu lo0 st [(0,vS p l.length),(3,vI (i : Int)),(7,vB true),(43,vB true)] fun _ => ?_
     exact cxs (Rt ⟨false,rfl,⟨fun h => absurd h Bool.false_ne_true,fun h => absurd ((h i x hx).2.2 y (by omega) hy) (Int.not_lt.2 h4)⟩,rfl⟩)
theorem ac_impl_MarksOk (p : Option Addr) (l : List Flr) (st : St) (hR : Rows st 2 cFlr p l) (hs : szOk l.length) : C 74 [vS p l.length] st (fun v s => ∃ x,v = .bool x ∧ (x = true ↔ marksOk l) ∧ s = st) := by
 have hs : l.length ≤ 1048576 := hs
 refine AC.enterX (i := ⟨[4],[4,12,17,32],[0,2,3,4,5,6,7,8,36],[]⟩) [(4,[],[])] Try.func74 rfl rfl (by kernel_rfl) (by kernel_rfl) Try.ntmps74 (Lb rfl) rfl ?_
 refine Cm 0 st [(0,vS p l.length),(2,vB false)] [] fun _ _ => ?_
 refine ⟨_,rfl,?_⟩
 refine Cm 0 st [(0,vS p l.length),(2,vB false),(5,vS p l.length),(6,vI (l.length)),(7,vI 0)] [] fun _ _ => ?_
 refine AW.loopM (fun i : Nat => [(0,vS p l.length),(5,vS p l.length),(6,vI (l.length : Int)),(7,vI (i : Int))]) (fun i : Nat => []) (fun m (i : Nat) st' => m = l.length - i ∧ i ≤ l.length ∧ (∀ (j : Nat) x,j < i → l[j]? = some x → markOk l j x) ∧ st = st') 0 _ ⟨rfl,rfl,rfl,rfl,trivial⟩ trivial ⟨rfl,Nat.zero_le _,fun j x h => absurd h (Nat.not_lt_zero _),rfl⟩ ?_
 rintro m i ρ0 ff gg st' ⟨rfl,hi,hok,rfl⟩
 refine ⟨_,rfl,?_⟩
 rintro (_|_) h1
 ·replace h1 : ¬ ((i : Int) < (l.length : Int)) := of_decide_eq_false h1
  refine Cm gg st [(0,vS p l.length),(5,vS p l.length),(6,vI (l.length : Int)),(7,vI (i : Int)),(8,vB false)] [] fun _ _ => ?_
  refine cxs ?_
  exact cxs (Rt ⟨true,rfl,⟨fun _ j x hx => hok j x (by have := (List.getElem?_eq_some_iff.1 hx).1; omega) hx,fun _ => rfl⟩,rfl⟩)
 ·replace h1 : (i : Int) < (l.length : Int) := of_decide_eq_true h1
  refine Cm gg st [(0,vS p l.length),(5,vS p l.length),(6,vI (l.length : Int)),(7,vI (i : Int)),(8,vB true)] [] fun _ _ => ?_
  have h1' := Int.ofNat_lt.1 h1
  have ⟨b1,o1,k1,x,hpe,hx,hm1,hc1,hb1⟩ := hR.atB h1'
  refine cxs ?_
  refine ⟨_,op_idx (j := (i : Int)) (n := l.length) (q := ⟨b1,o1,none⟩) rfl (congrArg (fun u => vS u l.length) hpe) rfl rfl rfl (Int.natCast_nonneg _) h1,?_⟩
  refine ⟨_,op_lda rfl rfl rfl rfl rfl hm1 hc1 rfl,?_⟩
  refine ⟨_,rfl,?_⟩
  refine ⟨_,Os rfl,?_⟩
  refine Cm (gg + 1) st [(0,vS p l.length),(3,vI (i : Int)),Ml 4 gg,(5,vS p l.length),(6,vI (l.length : Int)),(7,vI (i : Int)),(8,vB true)] [(4,gg,[vI x.id,vI x.inc])] fun _ _ => ?_
  refine ⟨_,rfl,?_⟩
  refine ⟨_,Od rfl,?_⟩
  refine ⟨_,rfl,(ac_impl_isNode x.id st).mono ?_⟩
  rintro _ st ⟨c,rfl,h2,rfl⟩
  rcases c with _|_
  ·replace h2 := of_decide_eq_false h2.symm
   iterate 3 refine ⟨_,rfl,?_⟩
   refine Cm (gg + 1) st [(0,vS p l.length),(3,vI (i : Int)),Ml 4 gg,(5,vS p l.length),(6,vI (l.length : Int)),(7,vI (i : Int)),(8,vB true),(36,vB true)] [(4,gg,[vI x.id,vI x.inc])] fun _ _ => ?_
   exact cxs (Rt ⟨false,rfl,⟨fun h => absurd h Bool.false_ne_true,fun h => absurd (h i x hx).1 h2⟩,rfl⟩)
  ·replace h2 := of_decide_eq_true h2.symm
   iterate 2 refine ⟨_,rfl,?_⟩
   refine ⟨_,Od rfl,?_⟩
   refine ⟨_,rfl,(ac_impl_within x.inc 1 1000 st).mono ?_⟩
   rintro _ st ⟨d,rfl,h5,rfl⟩
   rcases d with _|_
   ·replace h5 := of_decide_eq_false h5.symm
    iterate 3 refine ⟨_,rfl,?_⟩
    refine Cm (gg + 1) st [(0,vS p l.length),(3,vI (i : Int)),Ml 4 gg,(5,vS p l.length),(6,vI (l.length : Int)),(7,vI (i : Int)),(8,vB true),(36,vB true)] [(4,gg,[vI x.id,vI x.inc])] fun _ _ => ?_
    exact cxs (Rt ⟨false,rfl,⟨fun h => absurd h Bool.false_ne_true,fun h => absurd (h i x hx).2.1 h5⟩,rfl⟩)
   ·replace h5 := of_decide_eq_true h5.symm
    iterate 3 refine ⟨_,rfl,?_⟩
    rintro (_|_) h3
    ·replace h3 : ¬ (0 < (i : Int)) := of_decide_eq_false h3
     iterate 2 refine ⟨_,rfl,?_⟩
     refine Cm (gg + 1) st [(0,vS p l.length),(3,vI (i : Int)),Ml 4 gg,(5,vS p l.length),(6,vI (l.length : Int)),(7,vI (i : Int)),(8,vB true),(36,vB false)] [(4,gg,[vI x.id,vI x.inc])] fun _ _ => ?_
     refine cxs ?_
     have e37 : IntKind.wrap .i64 ((i : Int) + 1) = ((i + 1 : Nat) : Int) := (wrap_i64 (by omega) (by omega)).trans (by omega)
     refine ⟨_,rfl,?_⟩
     refine ⟨i + 1,l.length - (i + 1),by omega,⟨rfl,rfl,rfl,congrArg (Value.int .i64) e37,trivial⟩,trivial,rfl,h1',fun j u hj hu => ?_,rfl⟩
     rcases Nat.lt_or_ge j i with h | h
     ·exact hok j u h hu
     ·obtain rfl : j = i := by omega
      rw [hx] at hu
      injection hu with hu
      subst hu
      exact ⟨h2,h5,fun y h0 hy => absurd h0 (by omega)⟩
    ·replace h3 : 0 < (i : Int) := of_decide_eq_true h3
     have ⟨b2,o2,k2,y,hqe,hy,hm2,hc2,hb2⟩ := hR.atB (j := i - 1) (by omega)
     have e28 : IntKind.wrap .i64 ((i : Int) - 1) = ((i - 1 : Nat) : Int) := (wrap_i64 (by omega) (by omega)).trans (by omega)
     refine ⟨_,rfl,?_⟩
     refine ⟨_,op_idx (j := ((i - 1 : Nat) : Int)) (n := l.length) (q := ⟨b2,o2,none⟩) rfl (congrArg (fun u => vS u l.length) hqe) (congrArg (Value.int .i64) e28) rfl rfl (Int.natCast_nonneg _) (by omega),?_⟩
     refine ⟨_,rfl,?_⟩
     refine ⟨_,op_ldc (i := 0) rfl rfl rfl rfl hm2 hc2 rfl rfl,?_⟩
     refine ⟨_,rfl,?_⟩
     refine ⟨_,Od rfl,?_⟩
     refine ⟨_,rfl,?_⟩
     rintro (_|_) h4
     ·replace h4 : ¬ (x.id ≤ y.id) := of_decide_eq_false h4
      iterate 2 refine ⟨_,rfl,?_⟩
      refine Cm (gg + 1) st [(0,vS p l.length),(3,vI (i : Int)),Ml 4 gg,(5,vS p l.length),(6,vI (l.length : Int)),(7,vI (i : Int)),(8,vB true),(36,vB false)] [(4,gg,[vI x.id,vI x.inc])] fun _ _ => ?_
      refine cxs ?_
      have e37 : IntKind.wrap .i64 ((i : Int) + 1) = ((i + 1 : Nat) : Int) := (wrap_i64 (by omega) (by omega)).trans (by omega)
      refine ⟨_,rfl,?_⟩
      refine ⟨i + 1,l.length - (i + 1),by omega,⟨rfl,rfl,rfl,congrArg (Value.int .i64) e37,trivial⟩,trivial,rfl,h1',fun j u hj hu => ?_,rfl⟩
      rcases Nat.lt_or_ge j i with h | h
      ·exact hok j u h hu
      ·obtain rfl : j = i := by omega
       rw [hx] at hu
       injection hu with hu
       subst hu
       refine ⟨h2,h5,fun z h0 hz => ?_⟩
       rw [hy] at hz
       injection hz with hz
       subst hz
       exact Int.not_le.1 h4
     ·replace h4 : x.id ≤ y.id := of_decide_eq_true h4
      iterate 2 refine ⟨_,rfl,?_⟩
      refine Cm (gg + 1) st [(0,vS p l.length),(3,vI (i : Int)),Ml 4 gg,(5,vS p l.length),(6,vI (l.length : Int)),(7,vI (i : Int)),(8,vB true),(36,vB true)] [(4,gg,[vI x.id,vI x.inc])] fun _ _ => ?_
      exact cxs (Rt ⟨false,rfl,⟨fun h => absurd h Bool.false_ne_true,fun h => absurd ((h i x hx).2.2 y (by omega) hy) (Int.not_lt.2 h4)⟩,rfl⟩)
theorem split_at' {α : Type} {l : List α} {i : Nat} {x : α} (h : l[i]? = some x) : l = l.take i ++ x :: l.drop (i + 1) ∧ l.take (i + 1) = l.take i ++ [x] ∧ l.drop i = x :: l.drop (i + 1) := by
 obtain ⟨hi,hx⟩ := List.getElem?_eq_some_iff.1 h
 have h3 : l.drop i = x :: l.drop (i + 1) := by rw [List.drop_eq_getElem_cons hi,hx]
 refine ⟨?_,?_,h3⟩
 ·rw [← h3,List.take_append_drop]
 ·rw [List.take_add_one,h]; rfl
def RdS (st : St) (s : SV) : Prop := Rows st 6 cItm s.p s.x.items ∧ Rows st 2 cFlr s.q s.x.floors
abbrev pcS (s : SV) : List Pc := [pcR 6 cItm s.p s.x.items,pcR 2 cFlr s.q s.x.floors]
theorem RdS.pres {st st' : St} {s : SV} (h : RdS st s) (k : Pres st st') : RdS st' s := ⟨k.rows h.1,k.rows h.2⟩
theorem OwnP.items {st : St} {s : SV} (h : OwnP st (pcS s)) : OwnR st 6 cItm s.p s.x.items := pc_own (by decide) len_cItm (h.1 _ (List.mem_cons_self ..))
theorem OwnP.floors {st : St} {s : SV} (h : OwnP st (pcS s)) : OwnR st 2 cFlr s.q s.x.floors := pc_own (by decide) len_cFlr (h.1 _ (List.mem_cons_of_mem _ (List.mem_cons_self ..)))
theorem OwnP.rdS {st : St} {s : SV} (h : OwnP st (pcS s)) : RdS st s := ⟨h.items.rows len_cItm,h.floors.rows len_cFlr⟩
def bigS (s : Sta) : Prop := szOk s.items.length ∧ szOk s.floors.length ∧ ∀ x ∈ s.items,szOk x.e.data.size
def entOk (e : Ent) : Prop := (1 ≤ e.inc ∧ e.inc ≤ 1000) ∧ (0 ≤ e.rank ∧ e.rank ≤ 1) ∧ (0 ≤ e.beat ∧ e.beat ≤ 100000) ∧ (0 ≤ e.ver ∧ e.ver ≤ 1000) ∧ e.data.size ≤ 8
theorem ac_spec_EntryOk (e : Ent) (st : St) : C 112 [.agg #[vI e.inc,vI e.rank,vI e.beat,vI e.ver,.string e.data]] st (fun v s => ∃ x,v = .bool x ∧ (x = true ↔ entOk e) ∧ s = st) := by
 refine AC.enterX (i := ⟨[1],[1,3,7,12,17,22],[0,1,2],[]⟩) [] Try.func112 rfl rfl (by kernel_rfl) (by kernel_rfl) Try.ntmps112 (Lb rfl) rfl ?_
 refine ⟨_,rfl,?_⟩
 refine Cm 1 st [Ml 1 0,(2,vB false)] [(1,0,[vI e.inc,vI e.rank,vI e.beat,vI e.ver,.string e.data])] fun _ _ => ?_
 iterate 2 refine ⟨_,rfl,?_⟩
 refine ⟨_,rfl,(ac_spec_l1In e.inc 1 1000 st).mono ?_⟩
 rintro _ st ⟨a,rfl,h1,rfl⟩
 rcases a with _|_
 ·replace h1 := of_decide_eq_false h1.symm
  iterate 4 refine ⟨_,rfl,?_⟩
  exact cxs (Rt ⟨false,rfl,⟨fun h => absurd h Bool.false_ne_true,fun h => absurd h.1 h1⟩,rfl⟩)
 ·replace h1 := of_decide_eq_true h1.symm
  iterate 2 refine ⟨_,rfl,?_⟩
  refine ⟨_,rfl,(ac_spec_l1In e.rank 0 1 st).mono ?_⟩
  rintro _ st ⟨b,rfl,h2,rfl⟩
  rcases b with _|_
  ·replace h2 := of_decide_eq_false h2.symm
   iterate 4 refine ⟨_,rfl,?_⟩
   exact cxs (Rt ⟨false,rfl,⟨fun h => absurd h Bool.false_ne_true,fun h => absurd h.2.1 h2⟩,rfl⟩)
  ·replace h2 := of_decide_eq_true h2.symm
   iterate 3 refine ⟨_,rfl,?_⟩
   refine ⟨_,rfl,(ac_spec_l1In e.beat 0 100000 st).mono ?_⟩
   rintro _ st ⟨c,rfl,h3,rfl⟩
   rcases c with _|_
   ·replace h3 := of_decide_eq_false h3.symm
    iterate 3 refine ⟨_,rfl,?_⟩
    exact cxs (Rt ⟨false,rfl,⟨fun h => absurd h Bool.false_ne_true,fun h => absurd h.2.2.1 h3⟩,rfl⟩)
   ·replace h3 := of_decide_eq_true h3.symm
    iterate 3 refine ⟨_,rfl,?_⟩
    refine ⟨_,rfl,(ac_spec_l1In e.ver 0 1000 st).mono ?_⟩
    rintro _ st ⟨d,rfl,h4,rfl⟩
    rcases d with _|_
    ·replace h4 := of_decide_eq_false h4.symm
     iterate 2 refine ⟨_,rfl,?_⟩
     exact cxs (Rt ⟨false,rfl,⟨fun h => absurd h Bool.false_ne_true,fun h => absurd h.2.2.2.1 h4⟩,rfl⟩)
    ·replace h4 := of_decide_eq_true h4.symm
     iterate 5 refine ⟨_,rfl,?_⟩
     rintro (_|_) h5
     ·replace h5 : ¬ ((e.data.size : Int) ≤ 8) := of_decide_eq_false h5
      refine ⟨_,rfl,?_⟩
      exact cxs (Rt ⟨false,rfl,⟨fun h => absurd h Bool.false_ne_true,fun h => absurd h.2.2.2.2 (by omega)⟩,rfl⟩)
     ·replace h5 : (e.data.size : Int) ≤ 8 := of_decide_eq_true h5
      refine ⟨_,rfl,?_⟩
      exact cxs (Rt ⟨true,rfl,⟨fun _ => ⟨h1,h2,h3,h4,by omega⟩,fun _ => rfl⟩,rfl⟩)
theorem ac_impl_EntryOk (e : Ent) (st : St) : C 117 [.agg #[vI e.inc,vI e.rank,vI e.beat,vI e.ver,.string e.data]] st (fun v s => ∃ x,v = .bool x ∧ (x = true ↔ entOk e) ∧ s = st) := by
 refine AC.enterX (i := ⟨[1],[1,3,7,12,17,22],[0,1,2],[]⟩) [] Try.func117 rfl rfl (by kernel_rfl) (by kernel_rfl) Try.ntmps117 (Lb rfl) rfl ?_
 refine ⟨_,rfl,?_⟩
 refine Cm 1 st [Ml 1 0,(2,vB false)] [(1,0,[vI e.inc,vI e.rank,vI e.beat,vI e.ver,.string e.data])] fun _ _ => ?_
 iterate 2 refine ⟨_,rfl,?_⟩
 refine ⟨_,rfl,(ac_impl_within e.inc 1 1000 st).mono ?_⟩
 rintro _ st ⟨a,rfl,h1,rfl⟩
 rcases a with _|_
 ·replace h1 := of_decide_eq_false h1.symm
  iterate 4 refine ⟨_,rfl,?_⟩
  exact cxs (Rt ⟨false,rfl,⟨fun h => absurd h Bool.false_ne_true,fun h => absurd h.1 h1⟩,rfl⟩)
 ·replace h1 := of_decide_eq_true h1.symm
  iterate 2 refine ⟨_,rfl,?_⟩
  refine ⟨_,rfl,(ac_impl_within e.rank 0 1 st).mono ?_⟩
  rintro _ st ⟨b,rfl,h2,rfl⟩
  rcases b with _|_
  ·replace h2 := of_decide_eq_false h2.symm
   iterate 4 refine ⟨_,rfl,?_⟩
   exact cxs (Rt ⟨false,rfl,⟨fun h => absurd h Bool.false_ne_true,fun h => absurd h.2.1 h2⟩,rfl⟩)
  ·replace h2 := of_decide_eq_true h2.symm
   iterate 3 refine ⟨_,rfl,?_⟩
   refine ⟨_,rfl,(ac_impl_within e.beat 0 100000 st).mono ?_⟩
   rintro _ st ⟨c,rfl,h3,rfl⟩
   rcases c with _|_
   ·replace h3 := of_decide_eq_false h3.symm
    iterate 3 refine ⟨_,rfl,?_⟩
    exact cxs (Rt ⟨false,rfl,⟨fun h => absurd h Bool.false_ne_true,fun h => absurd h.2.2.1 h3⟩,rfl⟩)
   ·replace h3 := of_decide_eq_true h3.symm
    iterate 3 refine ⟨_,rfl,?_⟩
    refine ⟨_,rfl,(ac_impl_within e.ver 0 1000 st).mono ?_⟩
    rintro _ st ⟨d,rfl,h4,rfl⟩
    rcases d with _|_
    ·replace h4 := of_decide_eq_false h4.symm
     iterate 2 refine ⟨_,rfl,?_⟩
     exact cxs (Rt ⟨false,rfl,⟨fun h => absurd h Bool.false_ne_true,fun h => absurd h.2.2.2.1 h4⟩,rfl⟩)
    ·replace h4 := of_decide_eq_true h4.symm
     iterate 5 refine ⟨_,rfl,?_⟩
     rintro (_|_) h5
     ·replace h5 : ¬ ((e.data.size : Int) ≤ 8) := of_decide_eq_false h5
      refine ⟨_,rfl,?_⟩
      exact cxs (Rt ⟨false,rfl,⟨fun h => absurd h Bool.false_ne_true,fun h => absurd h.2.2.2.2 (by omega)⟩,rfl⟩)
     ·replace h5 : (e.data.size : Int) ≤ 8 := of_decide_eq_true h5
      refine ⟨_,rfl,?_⟩
      exact cxs (Rt ⟨true,rfl,⟨fun _ => ⟨h1,h2,h3,h4,by omega⟩,fun _ => rfl⟩,rfl⟩)
def floorOf : List Flr → Int → Int
 | [],_ => 0
 | f :: l,id => if f.id = id then f.inc else floorOf l id
theorem ac_spec_FloorOf (s : SV) (id : Int) (st : St) (hR : RdS st s) (hb : bigS s.x) : C 113 [.agg #[vS s.p s.x.items.length,vS s.q s.x.floors.length],vI id] st (fun v s' => v = vI (floorOf s.x.floors id) ∧ s' = st) := by
 have hs : s.x.floors.length ≤ 1048576 := hb.2.1
 refine AC.enterX (i := ⟨[2],[2,7,13,21],[0,1,2,4,5,10,20],[]⟩) [] Try.func113 rfl rfl (by kernel_rfl) (by kernel_rfl) Try.ntmps113 (Lb rfl) rfl ?_
 refine ⟨_,rfl,?_⟩
 refine cxs ?_
 refine Cm 1 st [(1,vI id),Ml 2 0,(4,vI 0),(5,vI 0)] [(2,0,cSV s)] fun _ _ => ?_
 refine AW.loopM (fun i : Nat => [(1,vI id),(2,vL 2 0 (0)),(5,vI (i : Int))]) (fun i : Nat => [(2,0,[vS s.p s.x.items.length,vS s.q s.x.floors.length])]) (fun m (i : Nat) st' => m = s.x.floors.length - i ∧ i ≤ s.x.floors.length ∧ floorOf s.x.floors id = floorOf (s.x.floors.drop i) id ∧ st = st') 0 _ ⟨rfl,rfl,rfl,trivial⟩ ⟨rfl,trivial⟩ ⟨rfl,Nat.zero_le _,rfl,rfl⟩ ?_
 rintro m i ρ0 ff gg st' ⟨rfl,hi,hf,rfl⟩
 refine ⟨_,rfl,?_⟩
 refine ⟨_,Od rfl,?_⟩
 iterate 2 refine ⟨_,rfl,?_⟩
 rintro (_|_) h1
 ·replace h1 : ¬ ((i : Int) < (s.x.floors.length : Int)) := of_decide_eq_false h1
  refine Cm gg st [(1,vI id),Ml 2 0,(5,vI (i : Int)),(10,vB false)] [(2,0,cSV s)] fun _ _ => ?_
  refine cxs ?_
  refine cxs ?_
  have hil : i = s.x.floors.length := by omega
  exact Rt ⟨congrArg vI (by rw [hf,hil,List.drop_length]; rfl),rfl⟩
 ·replace h1 : (i : Int) < (s.x.floors.length : Int) := of_decide_eq_true h1
  refine Cm gg st [(1,vI id),Ml 2 0,(5,vI (i : Int)),(10,vB true)] [(2,0,cSV s)] fun _ _ => ?_
  have h1' := Int.ofNat_lt.1 h1
  have ⟨b1,o1,k1,x,hpe,hx,hm1,hc1,hb1⟩ := hR.2.atB h1'
  rw [(split_at' hx).2.2,floorOf] at hf
  refine cxs ?_
  refine ⟨_,rfl,?_⟩
  refine ⟨_,Od rfl,?_⟩
  refine ⟨_,op_idx (j := (i : Int)) (n := s.x.floors.length) (q := ⟨b1,o1,none⟩) rfl (congrArg (fun u => vS u s.x.floors.length) hpe) rfl rfl rfl (Int.natCast_nonneg _) h1,?_⟩
  refine ⟨_,rfl,?_⟩
  refine ⟨_,op_ldc (i := 0) rfl rfl rfl rfl hm1 hc1 rfl rfl,?_⟩
  refine ⟨_,rfl,?_⟩
  rintro (_|_) h2
  ·replace h2 : ¬ (x.id = id) := beq_eq_false_iff_ne.1 h2
   refine Cm gg st [(1,vI id),Ml 2 0,(5,vI (i : Int)),(10,vB true),(20,vB false)] [(2,0,cSV s)] fun _ _ => ?_
   refine cxs ?_
   have e12 : IntKind.wrap .i64 ((i : Int) + 1) = ((i + 1 : Nat) : Int) := (wrap_i64 (by omega) (by omega)).trans (by omega)
   refine ⟨_,rfl,?_⟩
   exact ⟨i + 1,s.x.floors.length - (i + 1),by omega,⟨rfl,rfl,congrArg (Value.int .i64) e12,trivial⟩,⟨rfl,trivial⟩,rfl,h1',by rw [hf,if_neg h2],rfl⟩
  ·replace h2 : x.id = id := beq_iff_eq.1 h2
   refine Cm gg st [(1,vI id),Ml 2 0,(5,vI (i : Int)),(10,vB true),(20,vB true)] [(2,0,cSV s)] fun _ _ => ?_
   refine ⟨_,rfl,?_⟩
   refine ⟨_,Od rfl,?_⟩
   refine ⟨_,op_idx (j := (i : Int)) (n := s.x.floors.length) (q := ⟨b1,o1,none⟩) rfl (congrArg (fun u => vS u s.x.floors.length) hpe) rfl rfl rfl (Int.natCast_nonneg _) h1,?_⟩
   refine ⟨_,rfl,?_⟩
   refine ⟨_,op_ldc (i := 1) rfl rfl rfl rfl hm1 hc1 rfl rfl,?_⟩
   exact cxs (Rt ⟨congrArg vI (by rw [hf,if_pos h2]),rfl⟩)
theorem ac_impl_FloorOf (s : SV) (id : Int) (st : St) (hR : RdS st s) (hb : bigS s.x) : C 83 [.agg #[vS s.p s.x.items.length,vS s.q s.x.floors.length],vI id] st (fun v s' => v = vI (floorOf s.x.floors id) ∧ s' = st) := by
 have hs : s.x.floors.length ≤ 1048576 := hb.2.1
 refine AC.enterX (i := ⟨[2,6],[2,6,7,14,18],[0,1,2,4,6,8,9,10,11,17],[]⟩) [] Try.func83 rfl rfl (by kernel_rfl) (by kernel_rfl) Try.ntmps83 (Lb rfl) rfl ?_
 refine ⟨_,rfl,?_⟩
 refine Cm 1 st [(1,vI id),Ml 2 0,(4,vI 0)] [(2,0,cSV s)] fun _ _ => ?_
 iterate 3 refine ⟨_,rfl,?_⟩
 refine Cm 1 st [(1,vI id),(4,vI 0),(8,vS s.q s.x.floors.length),(9,vI (s.x.floors.length)),(10,vI 0)] [] fun _ _ => ?_
 refine AW.loopM (fun i : Nat => [(1,vI id),(8,vS s.q s.x.floors.length),(9,vI (s.x.floors.length : Int)),(10,vI (i : Int))]) (fun i : Nat => []) (fun m (i : Nat) st' => m = s.x.floors.length - i ∧ i ≤ s.x.floors.length ∧ floorOf s.x.floors id = floorOf (s.x.floors.drop i) id ∧ st = st') 0 _ ⟨rfl,rfl,rfl,rfl,trivial⟩ trivial ⟨rfl,Nat.zero_le _,rfl,rfl⟩ ?_
 rintro m i ρ0 ff gg st' ⟨rfl,hi,hf,rfl⟩
 refine ⟨_,rfl,?_⟩
 rintro (_|_) h1
 ·replace h1 : ¬ ((i : Int) < (s.x.floors.length : Int)) := of_decide_eq_false h1
  refine Cm gg st [(1,vI id),(8,vS s.q s.x.floors.length),(9,vI (s.x.floors.length : Int)),(10,vI (i : Int)),(11,vB false)] [] fun _ _ => ?_
  refine cxs ?_
  refine cxs ?_
  have hil : i = s.x.floors.length := by omega
  exact Rt ⟨congrArg vI (by rw [hf,hil,List.drop_length]; rfl),rfl⟩
 ·replace h1 : (i : Int) < (s.x.floors.length : Int) := of_decide_eq_true h1
  refine Cm gg st [(1,vI id),(8,vS s.q s.x.floors.length),(9,vI (s.x.floors.length : Int)),(10,vI (i : Int)),(11,vB true)] [] fun _ _ => ?_
  have h1' := Int.ofNat_lt.1 h1
  have ⟨b1,o1,k1,x,hpe,hx,hm1,hc1,hb1⟩ := hR.2.atB h1'
  rw [(split_at' hx).2.2,floorOf] at hf
  refine cxs ?_
  refine ⟨_,op_idx (j := (i : Int)) (n := s.x.floors.length) (q := ⟨b1,o1,none⟩) rfl (congrArg (fun u => vS u s.x.floors.length) hpe) rfl rfl rfl (Int.natCast_nonneg _) h1,?_⟩
  refine ⟨_,op_lda rfl rfl rfl rfl rfl hm1 hc1 rfl,?_⟩
  refine ⟨_,rfl,?_⟩
  refine ⟨_,Os rfl,?_⟩
  refine Cm (gg + 1) st [(1,vI id),Ml 6 gg,(8,vS s.q s.x.floors.length),(9,vI (s.x.floors.length : Int)),(10,vI (i : Int)),(11,vB true)] [(6,gg,[vI x.id,vI x.inc])] fun _ _ => ?_
  refine ⟨_,rfl,?_⟩
  refine ⟨_,Od rfl,?_⟩
  refine ⟨_,rfl,?_⟩
  rintro (_|_) h2
  ·replace h2 : ¬ (x.id = id) := beq_eq_false_iff_ne.1 h2
   refine Cm (gg + 1) st [(1,vI id),Ml 6 gg,(8,vS s.q s.x.floors.length),(9,vI (s.x.floors.length : Int)),(10,vI (i : Int)),(11,vB true),(17,vB false)] [(6,gg,[vI x.id,vI x.inc])] fun _ _ => ?_
   refine cxs ?_
   have e20 : IntKind.wrap .i64 ((i : Int) + 1) = ((i + 1 : Nat) : Int) := (wrap_i64 (by omega) (by omega)).trans (by omega)
   refine ⟨_,rfl,?_⟩
   exact ⟨i + 1,s.x.floors.length - (i + 1),by omega,⟨rfl,rfl,rfl,congrArg (Value.int .i64) e20,trivial⟩,trivial,rfl,h1',by rw [hf,if_neg h2],rfl⟩
  ·replace h2 : x.id = id := beq_iff_eq.1 h2
   refine Cm (gg + 1) st [(1,vI id),Ml 6 gg,(8,vS s.q s.x.floors.length),(9,vI (s.x.floors.length : Int)),(10,vI (i : Int)),(11,vB true),(17,vB true)] [(6,gg,[vI x.id,vI x.inc])] fun _ _ => ?_
   refine ⟨_,rfl,?_⟩
   refine ⟨_,Od rfl,?_⟩
   exact cxs (Rt ⟨congrArg vI (by rw [hf,if_pos h2]),rfl⟩)
theorem pcS_nil {st : St} : OwnP st [pcR 6 cItm none [],pcR 2 cFlr none []] := ⟨fun c hc => by
 rcases List.mem_cons.1 hc with rfl | hc
 ·exact .inl ⟨rfl,rfl⟩
 ·rw [List.mem_singleton.1 hc]; exact .inl ⟨rfl,rfl⟩,List.pairwise_cons.2 ⟨fun c hc => Dis.none,List.pairwise_singleton _ _⟩⟩
def nilS : Sta := ⟨[],[]⟩
theorem bigS_nil : bigS nilS := ⟨Nat.zero_le _,Nat.zero_le _,fun x hx => by cases hx⟩
theorem newS_nil {n : Nat} : NewP n (pcS ⟨none,none,nilS⟩) := NewP.cons New.none (NewP.cons New.none NewP.nil)
def itemOk (s : Sta) (j : Nat) (x : Itm) : Prop := (0 ≤ x.id ∧ x.id ≤ 4) ∧ entOk x.e ∧ floorOf s.floors x.id < x.e.inc ∧ ∀ y,0 < j → s.items[j - 1]? = some y → y.id < x.id
def stateOk (s : Sta) : Prop := (∀ (j : Nat) x,s.items[j]? = some x → itemOk s j x) ∧ marksOk s.floors
theorem ac_spec_StateOk (s : SV) (st : St) (hR : RdS st s) (hb : bigS s.x) : C 48 [.agg #[vS s.p s.x.items.length,vS s.q s.x.floors.length]] st (fun v s' => ∃ x,v = .bool x ∧ (x = true ↔ stateOk s.x) ∧ s' = st) := by
 have hs1 : s.x.items.length ≤ 1048576 := hb.1
 have hs2 : s.x.floors.length ≤ 1048576 := hb.2.1
 refine AC.enterX (i := ⟨[1,4,6],[1,4,6,8,14,19,27,29,40,46,47,50,56,62,67,75,77,88],[0,1,2,3,4,5,6,11,54,59,92],[]⟩) [(5,[33],[29]),(11,[],[])] Try.func48 rfl rfl (by kernel_rfl) (by kernel_rfl) Try.ntmps48 (Lb rfl) rfl ?_
 refine ⟨_,rfl,?_⟩
 refine cxs ?_
 refine Cm 1 st [Ml 1 0,(2,vB false),(3,vI 0)] [(1,0,cSV s)] fun _ _ => ?_
 refine AW.loopM (fun i : Nat => [(1,vL 1 0 (0)),(3,vI (i : Int))]) (fun i : Nat => [(1,0,[vS s.p s.x.items.length,vS s.q s.x.floors.length])]) (fun m (i : Nat) st' => m = s.x.items.length - i ∧ i ≤ s.x.items.length ∧ (∀ (j : Nat) x,j < i → s.x.items[j]? = some x → itemOk s.x j x) ∧ st = st') 0 _ ⟨rfl,rfl,trivial⟩ ⟨rfl,trivial⟩ ⟨rfl,Nat.zero_le _,fun j x h => absurd h (Nat.not_lt_zero _),rfl⟩ ?_
 rintro m i ρ0 ff gg st' ⟨rfl,hi,hok,rfl⟩
 refine ⟨_,rfl,?_⟩
 refine ⟨_,Od rfl,?_⟩
 iterate 2 refine ⟨_,rfl,?_⟩
 rintro (_|_) h1
 ·replace h1 : ¬ ((i : Int) < (s.x.items.length : Int)) := of_decide_eq_false h1
  refine Cm gg st [Ml 1 0,(3,vI (i : Int)),(11,vB false)] [(1,0,cSV s)] fun _ _ => ?_
  refine cxs ?_
  refine Cm gg st [Ml 1 0,(5,vI 0)] [(1,0,cSV s)] fun _ _ => ?_
  refine AW.loopM (fun v : Nat => [(1,vL 1 0 (0)),(5,vI (v : Int))]) (fun v : Nat => [(1,0,[vS s.p s.x.items.length,vS s.q s.x.floors.length])]) (fun m (v : Nat) st' => m = s.x.floors.length - v ∧ v ≤ s.x.floors.length ∧ (∀ (j : Nat) x,j < v → s.x.floors[j]? = some x → markOk s.x.floors j x) ∧ st = st') 0 _ ⟨rfl,rfl,trivial⟩ ⟨rfl,trivial⟩ ⟨rfl,Nat.zero_le _,fun j x h => absurd h (Nat.not_lt_zero _),rfl⟩ ?_
  rintro m v ρ0 ff gg st' ⟨rfl,hi2,hok2,rfl⟩
  refine ⟨_,rfl,?_⟩
  refine ⟨_,Od rfl,?_⟩
  iterate 2 refine ⟨_,rfl,?_⟩
  rintro (_|_) h7
  ·replace h7 : ¬ ((v : Int) < (s.x.floors.length : Int)) := of_decide_eq_false h7
   refine Cm gg st [Ml 1 0,(5,vI (v : Int)),(59,vB false)] [(1,0,cSV s)] fun _ _ => ?_
   refine cxs ?_
   exact cxs (Rt ⟨true,rfl,⟨fun _ => ⟨fun j x hx => hok j x (by have := (List.getElem?_eq_some_iff.1 hx).1; omega) hx,fun j x hx => hok2 j x (by have := (List.getElem?_eq_some_iff.1 hx).1; omega) hx⟩,fun _ => rfl⟩,rfl⟩)
  ·replace h7 : (v : Int) < (s.x.floors.length : Int) := of_decide_eq_true h7
   refine Cm gg st [Ml 1 0,(5,vI (v : Int)),(59,vB true)] [(1,0,cSV s)] fun _ _ => ?_
   have h7' := Int.ofNat_lt.1 h7
   have ⟨b3,o3,k3,x,hpe,hx,hm1,hc1,hb1⟩ := hR.2.atB h7'
   refine cxs ?_
   refine ⟨_,rfl,?_⟩
   refine ⟨_,Od rfl,?_⟩
   refine ⟨_,op_idx (j := (v : Int)) (n := s.x.floors.length) (q := ⟨b3,o3,none⟩) rfl (congrArg (fun u => vS u s.x.floors.length) hpe) rfl rfl rfl (Int.natCast_nonneg _) h7,?_⟩
   refine ⟨_,op_lda rfl rfl rfl rfl rfl hm1 hc1 rfl,?_⟩
   refine ⟨_,rfl,?_⟩
   refine ⟨_,Os rfl,?_⟩
   refine Cm (gg + 1) st [Ml 1 0,(5,vI (v : Int)),Ml 6 gg,(59,vB true)] [(1,0,cSV s),(6,gg,[vI x.id,vI x.inc])] fun _ _ => ?_
   refine ⟨_,rfl,?_⟩
   refine ⟨_,Od rfl,?_⟩
   refine ⟨_,rfl,(ac_spec_l3Node x.id st).mono ?_⟩
   rintro _ st ⟨c,rfl,h8,rfl⟩
   rcases c with _|_
   ·replace h8 := of_decide_eq_false h8.symm
    iterate 3 refine ⟨_,rfl,?_⟩
    refine Cm (gg + 1) st [Ml 1 0,(5,vI (v : Int)),Ml 6 gg,(59,vB true),(92,vB true)] [(1,0,cSV s),(6,gg,[vI x.id,vI x.inc])] fun _ _ => ?_
    exact cxs (Rt ⟨false,rfl,⟨fun h => absurd h Bool.false_ne_true,fun h => absurd (h.2 v x hx).1 h8⟩,rfl⟩)
   ·replace h8 := of_decide_eq_true h8.symm
    iterate 2 refine ⟨_,rfl,?_⟩
    rintro (_|_) h9
    ·replace h9 : ¬ (0 < (v : Int)) := of_decide_eq_false h9
     iterate 3 refine ⟨_,rfl,?_⟩
     refine ⟨_,Od rfl,?_⟩
     refine ⟨_,rfl,(ac_spec_l1In x.inc 1 1000 st).mono ?_⟩
     rintro _ st ⟨d,rfl,h11,rfl⟩
     rcases d with _|_
     ·replace h11 := of_decide_eq_false h11.symm
      iterate 2 refine ⟨_,rfl,?_⟩
      refine Cm (gg + 1) st [Ml 1 0,(5,vI (v : Int)),Ml 6 gg,(59,vB true),(92,vB true)] [(1,0,cSV s),(6,gg,[vI x.id,vI x.inc])] fun _ _ => ?_
      exact cxs (Rt ⟨false,rfl,⟨fun h => absurd h Bool.false_ne_true,fun h => absurd (h.2 v x hx).2.1 h11⟩,rfl⟩)
     ·replace h11 := of_decide_eq_true h11.symm
      iterate 2 refine ⟨_,rfl,?_⟩
      refine Cm (gg + 1) st [Ml 1 0,(5,vI (v : Int)),Ml 6 gg,(59,vB true),(92,vB false)] [(1,0,cSV s),(6,gg,[vI x.id,vI x.inc])] fun _ _ => ?_
      refine cxs ?_
      have e61 : IntKind.wrap .i64 ((v : Int) + 1) = ((v + 1 : Nat) : Int) := (wrap_i64 (by omega) (by omega)).trans (by omega)
      refine ⟨_,rfl,?_⟩
      refine ⟨v + 1,s.x.floors.length - (v + 1),by omega,⟨rfl,congrArg (Value.int .i64) e61,trivial⟩,⟨rfl,trivial⟩,rfl,h7',fun j u hj hu => ?_,rfl⟩
      rcases Nat.lt_or_ge j v with h | h
      ·exact hok2 j u h hu
      ·obtain rfl : j = v := by omega
       rw [hx] at hu
       injection hu with hu
       subst hu
       exact ⟨h8,h11,fun y h0 hy => absurd h0 (by omega)⟩
    ·replace h9 : 0 < (v : Int) := of_decide_eq_true h9
     refine ⟨_,rfl,?_⟩
     refine ⟨_,Od rfl,?_⟩
     refine ⟨_,rfl,?_⟩
     refine ⟨_,Od rfl,?_⟩
     have ⟨b2,o2,k2,y,hqe,hy,hm2,hc2,hb2⟩ := hR.2.atB (j := v - 1) (by omega)
     have e80 : IntKind.wrap .i64 ((v : Int) - 1) = ((v - 1 : Nat) : Int) := (wrap_i64 (by omega) (by omega)).trans (by omega)
     refine ⟨_,rfl,?_⟩
     refine ⟨_,op_idx (j := ((v - 1 : Nat) : Int)) (n := s.x.floors.length) (q := ⟨b2,o2,none⟩) rfl (congrArg (fun u => vS u s.x.floors.length) hqe) (congrArg (Value.int .i64) e80) rfl rfl (Int.natCast_nonneg _) (by omega),?_⟩
     refine ⟨_,rfl,?_⟩
     refine ⟨_,op_ldc (i := 0) rfl rfl rfl rfl hm2 hc2 rfl rfl,?_⟩
     refine ⟨_,rfl,?_⟩
     rintro (_|_) h10
     ·replace h10 : ¬ (x.id ≤ y.id) := of_decide_eq_false h10
      iterate 3 refine ⟨_,rfl,?_⟩
      refine ⟨_,Od rfl,?_⟩
      refine ⟨_,rfl,(ac_spec_l1In x.inc 1 1000 st).mono ?_⟩
      rintro _ st ⟨d,rfl,h11,rfl⟩
      rcases d with _|_
      ·replace h11 := of_decide_eq_false h11.symm
       iterate 2 refine ⟨_,rfl,?_⟩
       refine Cm (gg + 1) st [Ml 1 0,(5,vI (v : Int)),Ml 6 gg,(59,vB true),(92,vB true)] [(1,0,cSV s),(6,gg,[vI x.id,vI x.inc])] fun _ _ => ?_
       exact cxs (Rt ⟨false,rfl,⟨fun h => absurd h Bool.false_ne_true,fun h => absurd (h.2 v x hx).2.1 h11⟩,rfl⟩)
      ·replace h11 := of_decide_eq_true h11.symm
       iterate 2 refine ⟨_,rfl,?_⟩
       refine Cm (gg + 1) st [Ml 1 0,(5,vI (v : Int)),Ml 6 gg,(59,vB true),(92,vB false)] [(1,0,cSV s),(6,gg,[vI x.id,vI x.inc])] fun _ _ => ?_
       refine cxs ?_
       have e61 : IntKind.wrap .i64 ((v : Int) + 1) = ((v + 1 : Nat) : Int) := (wrap_i64 (by omega) (by omega)).trans (by omega)
       refine ⟨_,rfl,?_⟩
       refine ⟨v + 1,s.x.floors.length - (v + 1),by omega,⟨rfl,congrArg (Value.int .i64) e61,trivial⟩,⟨rfl,trivial⟩,rfl,h7',fun j u hj hu => ?_,rfl⟩
       rcases Nat.lt_or_ge j v with h | h
       ·exact hok2 j u h hu
       ·obtain rfl : j = v := by omega
        rw [hx] at hu
        injection hu with hu
        subst hu
        refine ⟨h8,h11,fun z h0 hz => ?_⟩
        rw [hy] at hz
        injection hz with hz
        subst hz
        exact Int.not_le.1 h10
     ·replace h10 : x.id ≤ y.id := of_decide_eq_true h10
      iterate 3 refine ⟨_,rfl,?_⟩
      refine Cm (gg + 1) st [Ml 1 0,(5,vI (v : Int)),Ml 6 gg,(59,vB true),(92,vB true)] [(1,0,cSV s),(6,gg,[vI x.id,vI x.inc])] fun _ _ => ?_
      exact cxs (Rt ⟨false,rfl,⟨fun h => absurd h Bool.false_ne_true,fun h => absurd ((h.2 v x hx).2.2 y (by omega) hy) (Int.not_lt.2 h10)⟩,rfl⟩)
 ·replace h1 : (i : Int) < (s.x.items.length : Int) := of_decide_eq_true h1
  refine Cm gg st [Ml 1 0,(3,vI (i : Int)),(11,vB true)] [(1,0,cSV s)] fun _ _ => ?_
  have h1' := Int.ofNat_lt.1 h1
  have ⟨b1,o1,k1,x,hpe,hx,hm1,hc1,hb1⟩ := hR.1.atB h1'
  refine cxs ?_
  refine ⟨_,rfl,?_⟩
  refine ⟨_,Od rfl,?_⟩
  refine ⟨_,op_idx (j := (i : Int)) (n := s.x.items.length) (q := ⟨b1,o1,none⟩) rfl (congrArg (fun u => vS u s.x.items.length) hpe) rfl rfl rfl (Int.natCast_nonneg _) h1,?_⟩
  refine ⟨_,op_lda rfl rfl rfl rfl rfl hm1 hc1 rfl,?_⟩
  refine ⟨_,rfl,?_⟩
  refine ⟨_,Os rfl,?_⟩
  refine Cm (gg + 1) st [Ml 1 0,(3,vI (i : Int)),Ml 4 gg,(11,vB true)] [(1,0,cSV s),(4,gg,[vI x.id,vI x.e.inc,vI x.e.rank,vI x.e.beat,vI x.e.ver,.string x.e.data])] fun _ _ => ?_
  refine ⟨_,rfl,?_⟩
  refine ⟨_,Od rfl,?_⟩
  refine ⟨_,rfl,(ac_spec_l3Node x.id st).mono ?_⟩
  rintro _ st ⟨c,rfl,h2,rfl⟩
  rcases c with _|_
  ·replace h2 := of_decide_eq_false h2.symm
   iterate 4 refine ⟨_,rfl,?_⟩
   refine Cm (gg + 1) st [Ml 1 0,(3,vI (i : Int)),Ml 4 gg,(11,vB true),(54,vB true)] [(1,0,cSV s),(4,gg,[vI x.id,vI x.e.inc,vI x.e.rank,vI x.e.beat,vI x.e.ver,.string x.e.data])] fun _ _ => ?_
   exact cxs (Rt ⟨false,rfl,⟨fun h => absurd h Bool.false_ne_true,fun h => absurd (h.1 i x hx).1 h2⟩,rfl⟩)
  ·replace h2 := of_decide_eq_true h2.symm
   iterate 2 refine ⟨_,rfl,?_⟩
   rintro (_|_) h3
   ·replace h3 : ¬ (0 < (i : Int)) := of_decide_eq_false h3
    iterate 3 refine ⟨_,rfl,?_⟩
    refine ⟨_,Od rfl,?_⟩
    refine ⟨_,rfl,(ac_spec_EntryOk x.e st).mono ?_⟩
    rintro _ st ⟨d,rfl,h5,rfl⟩
    rcases d with _|_
    ·replace h5 := fun k => Bool.false_ne_true (h5.2 k)
     iterate 3 refine ⟨_,rfl,?_⟩
     refine Cm (gg + 1) st [Ml 1 0,(3,vI (i : Int)),Ml 4 gg,(11,vB true),(54,vB true)] [(1,0,cSV s),(4,gg,[vI x.id,vI x.e.inc,vI x.e.rank,vI x.e.beat,vI x.e.ver,.string x.e.data])] fun _ _ => ?_
     exact cxs (Rt ⟨false,rfl,⟨fun h => absurd h Bool.false_ne_true,fun h => absurd (h.1 i x hx).2.1 h5⟩,rfl⟩)
    ·replace h5 := h5.1 rfl
     iterate 4 refine ⟨_,rfl,?_⟩
     refine ⟨_,Od rfl,?_⟩
     refine ⟨ld_own rfl rfl rfl,?_⟩
     refine ⟨_,Od rfl,?_⟩
     refine ⟨_,rfl,?_⟩
     refine ⟨_,Od rfl,?_⟩
     refine ⟨_,rfl,(ac_spec_FloorOf s x.id st hR hb).mono ?_⟩
     rintro _ st ⟨rfl,rfl⟩
     refine ⟨fun _ _ => rfl,?_⟩
     refine ⟨_,rfl,?_⟩
     rintro (_|_) h6
     ·replace h6 : ¬ (x.e.inc ≤ floorOf s.x.floors x.id) := of_decide_eq_false h6
      refine ⟨_,rfl,?_⟩
      refine Cm (gg + 1) st [Ml 1 0,(3,vI (i : Int)),Ml 4 gg,(11,vB true),(54,vB false)] [(1,0,cSV s),(4,gg,[vI x.id,vI x.e.inc,vI x.e.rank,vI x.e.beat,vI x.e.ver,.string x.e.data])] fun _ _ => ?_
      refine cxs ?_
      have e13 : IntKind.wrap .i64 ((i : Int) + 1) = ((i + 1 : Nat) : Int) := (wrap_i64 (by omega) (by omega)).trans (by omega)
      refine ⟨_,rfl,?_⟩
      refine ⟨i + 1,s.x.items.length - (i + 1),by omega,⟨rfl,congrArg (Value.int .i64) e13,trivial⟩,⟨rfl,trivial⟩,rfl,h1',fun j u hj hu => ?_,rfl⟩
      rcases Nat.lt_or_ge j i with h | h
      ·exact hok j u h hu
      ·obtain rfl : j = i := by omega
       rw [hx] at hu
       injection hu with hu
       subst hu
       exact ⟨h2,h5,Int.not_le.1 h6,fun y h0 hy => absurd h0 (by omega)⟩
     ·replace h6 : x.e.inc ≤ floorOf s.x.floors x.id := of_decide_eq_true h6
      refine ⟨_,rfl,?_⟩
      refine Cm (gg + 1) st [Ml 1 0,(3,vI (i : Int)),Ml 4 gg,(11,vB true),(54,vB true)] [(1,0,cSV s),(4,gg,[vI x.id,vI x.e.inc,vI x.e.rank,vI x.e.beat,vI x.e.ver,.string x.e.data])] fun _ _ => ?_
      exact cxs (Rt ⟨false,rfl,⟨fun h => absurd h Bool.false_ne_true,fun h => absurd (h.1 i x hx).2.2.1 (Int.not_lt.2 h6)⟩,rfl⟩)
   ·replace h3 : 0 < (i : Int) := of_decide_eq_true h3
    refine ⟨_,rfl,?_⟩
    refine ⟨_,Od rfl,?_⟩
    refine ⟨_,rfl,?_⟩
    refine ⟨_,Od rfl,?_⟩
    have ⟨b2,o2,k2,y,hqe,hy,hm2,hc2,hb2⟩ := hR.1.atB (j := i - 1) (by omega)
    have e32 : IntKind.wrap .i64 ((i : Int) - 1) = ((i - 1 : Nat) : Int) := (wrap_i64 (by omega) (by omega)).trans (by omega)
    refine ⟨_,rfl,?_⟩
    refine ⟨_,op_idx (j := ((i - 1 : Nat) : Int)) (n := s.x.items.length) (q := ⟨b2,o2,none⟩) rfl (congrArg (fun u => vS u s.x.items.length) hqe) (congrArg (Value.int .i64) e32) rfl rfl (Int.natCast_nonneg _) (by omega),?_⟩
    refine ⟨_,rfl,?_⟩
    refine ⟨_,op_ldc (i := 0) rfl rfl rfl rfl hm2 hc2 rfl rfl,?_⟩
    refine ⟨_,rfl,?_⟩
    rintro (_|_) h4
    ·replace h4 : ¬ (x.id ≤ y.id) := of_decide_eq_false h4
     iterate 3 refine ⟨_,rfl,?_⟩
     refine ⟨_,Od rfl,?_⟩
     refine ⟨_,rfl,(ac_spec_EntryOk x.e st).mono ?_⟩
     rintro _ st ⟨d,rfl,h5,rfl⟩
     rcases d with _|_
     ·replace h5 := fun k => Bool.false_ne_true (h5.2 k)
      iterate 3 refine ⟨_,rfl,?_⟩
      refine Cm (gg + 1) st [Ml 1 0,(3,vI (i : Int)),Ml 4 gg,(11,vB true),(54,vB true)] [(1,0,cSV s),(4,gg,[vI x.id,vI x.e.inc,vI x.e.rank,vI x.e.beat,vI x.e.ver,.string x.e.data])] fun _ _ => ?_
      exact cxs (Rt ⟨false,rfl,⟨fun h => absurd h Bool.false_ne_true,fun h => absurd (h.1 i x hx).2.1 h5⟩,rfl⟩)
     ·replace h5 := h5.1 rfl
      iterate 4 refine ⟨_,rfl,?_⟩
      refine ⟨_,Od rfl,?_⟩
      refine ⟨ld_own rfl rfl rfl,?_⟩
      refine ⟨_,Od rfl,?_⟩
      refine ⟨_,rfl,?_⟩
      refine ⟨_,Od rfl,?_⟩
      refine ⟨_,rfl,(ac_spec_FloorOf s x.id st hR hb).mono ?_⟩
      rintro _ st ⟨rfl,rfl⟩
      refine ⟨fun _ _ => rfl,?_⟩
      refine ⟨_,rfl,?_⟩
      rintro (_|_) h6
      ·replace h6 : ¬ (x.e.inc ≤ floorOf s.x.floors x.id) := of_decide_eq_false h6
       refine ⟨_,rfl,?_⟩
       refine Cm (gg + 1) st [Ml 1 0,(3,vI (i : Int)),Ml 4 gg,(11,vB true),(54,vB false)] [(1,0,cSV s),(4,gg,[vI x.id,vI x.e.inc,vI x.e.rank,vI x.e.beat,vI x.e.ver,.string x.e.data])] fun _ _ => ?_
       refine cxs ?_
       have e13 : IntKind.wrap .i64 ((i : Int) + 1) = ((i + 1 : Nat) : Int) := (wrap_i64 (by omega) (by omega)).trans (by omega)
       refine ⟨_,rfl,?_⟩
       refine ⟨i + 1,s.x.items.length - (i + 1),by omega,⟨rfl,congrArg (Value.int .i64) e13,trivial⟩,⟨rfl,trivial⟩,rfl,h1',fun j u hj hu => ?_,rfl⟩
       rcases Nat.lt_or_ge j i with h | h
       ·exact hok j u h hu
       ·obtain rfl : j = i := by omega
        rw [hx] at hu
        injection hu with hu
        subst hu
        refine ⟨h2,h5,Int.not_le.1 h6,fun z h0 hz => ?_⟩
        rw [hy] at hz
        injection hz with hz
        subst hz
        exact Int.not_le.1 h4
      ·replace h6 : x.e.inc ≤ floorOf s.x.floors x.id := of_decide_eq_true h6
       refine ⟨_,rfl,?_⟩
       refine Cm (gg + 1) st [Ml 1 0,(3,vI (i : Int)),Ml 4 gg,(11,vB true),(54,vB true)] [(1,0,cSV s),(4,gg,[vI x.id,vI x.e.inc,vI x.e.rank,vI x.e.beat,vI x.e.ver,.string x.e.data])] fun _ _ => ?_
       exact cxs (Rt ⟨false,rfl,⟨fun h => absurd h Bool.false_ne_true,fun h => absurd (h.1 i x hx).2.2.1 (Int.not_lt.2 h6)⟩,rfl⟩)
    ·replace h4 : x.id ≤ y.id := of_decide_eq_true h4
     iterate 4 refine ⟨_,rfl,?_⟩
     refine Cm (gg + 1) st [Ml 1 0,(3,vI (i : Int)),Ml 4 gg,(11,vB true),(54,vB true)] [(1,0,cSV s),(4,gg,[vI x.id,vI x.e.inc,vI x.e.rank,vI x.e.beat,vI x.e.ver,.string x.e.data])] fun _ _ => ?_
     exact cxs (Rt ⟨false,rfl,⟨fun h => absurd h Bool.false_ne_true,fun h => absurd ((h.1 i x hx).2.2.2 y (by omega) hy) (Int.not_lt.2 h4)⟩,rfl⟩)
theorem ac_impl_StateOk (s : SV) (st : St) (hR : RdS st s) (hb : bigS s.x) : C 51 [.agg #[vS s.p s.x.items.length,vS s.q s.x.floors.length]] st (fun v s' => ∃ x,v = .bool x ∧ (x = true ↔ stateOk s.x) ∧ s' = st) := by
 have hs1 : s.x.items.length ≤ 1048576 := hb.1
 have hs2 : s.x.floors.length ≤ 1048576 := hb.2.1
 refine AC.enterX (i := ⟨[1,4,6],[1,4,6,7,15,20,29,36,42,50,55,61,62,65,74,81],[0,1,2,3,4,5,6,8,9,10,11,40,43,44,45,46,85],[]⟩) [(4,[],[]),(10,[17],[13])] Try.func51 rfl rfl (by kernel_rfl) (by kernel_rfl) Try.ntmps51 (Lb rfl) rfl ?_
 refine ⟨_,rfl,?_⟩
 refine Cm 1 st [Ml 1 0,(2,vB false)] [(1,0,cSV s)] fun _ _ => ?_
 iterate 3 refine ⟨_,rfl,?_⟩
 refine Cm 1 st [Ml 1 0,(2,vB false),(8,vS s.q s.x.floors.length),(9,vI (s.x.floors.length)),(10,vI 0)] [(1,0,cSV s)] fun _ _ => ?_
 refine AW.loopM (fun v : Nat => [(1,vL 1 0 (0)),(8,vS s.q s.x.floors.length),(9,vI (s.x.floors.length : Int)),(10,vI (v : Int))]) (fun v : Nat => [(1,0,[vS s.p s.x.items.length,vS s.q s.x.floors.length])]) (fun m (v : Nat) st' => m = s.x.floors.length - v ∧ v ≤ s.x.floors.length ∧ (∀ (j : Nat) x,j < v → s.x.floors[j]? = some x → markOk s.x.floors j x) ∧ st = st') 0 _ ⟨rfl,rfl,rfl,rfl,trivial⟩ ⟨rfl,trivial⟩ ⟨rfl,Nat.zero_le _,fun j x h => absurd h (Nat.not_lt_zero _),rfl⟩ ?_
 rintro m v ρ0 ff gg st' ⟨rfl,hi2,hok2,rfl⟩
 refine ⟨_,rfl,?_⟩
 rintro (_|_) h7
 ·replace h7 : ¬ ((v : Int) < (s.x.floors.length : Int)) := of_decide_eq_false h7
  refine Cm gg st [Ml 1 0,(8,vS s.q s.x.floors.length),(9,vI (s.x.floors.length : Int)),(10,vI (v : Int)),(11,vB false)] [(1,0,cSV s)] fun _ _ => ?_
  refine cxs ?_
  refine ⟨_,rfl,?_⟩
  refine ⟨_,Od rfl,?_⟩
  refine ⟨_,rfl,?_⟩
  refine Cm gg st [Ml 1 0,(43,vS s.p s.x.items.length),(44,vI (s.x.items.length)),(45,vI 0)] [(1,0,cSV s)] fun _ _ => ?_
  refine AW.loopM (fun i : Nat => [(1,vL 1 0 (0)),(43,vS s.p s.x.items.length),(44,vI (s.x.items.length : Int)),(45,vI (i : Int))]) (fun i : Nat => [(1,0,[vS s.p s.x.items.length,vS s.q s.x.floors.length])]) (fun m (i : Nat) st' => m = s.x.items.length - i ∧ i ≤ s.x.items.length ∧ (∀ (j : Nat) x,j < i → s.x.items[j]? = some x → itemOk s.x j x) ∧ st = st') 0 _ ⟨rfl,rfl,rfl,rfl,trivial⟩ ⟨rfl,trivial⟩ ⟨rfl,Nat.zero_le _,fun j x h => absurd h (Nat.not_lt_zero _),rfl⟩ ?_
  rintro m i ρ0 ff gg st' ⟨rfl,hi,hok,rfl⟩
  refine ⟨_,rfl,?_⟩
  rintro (_|_) h1
  ·replace h1 : ¬ ((i : Int) < (s.x.items.length : Int)) := of_decide_eq_false h1
   refine Cm gg st [Ml 1 0,(43,vS s.p s.x.items.length),(44,vI (s.x.items.length : Int)),(45,vI (i : Int)),(46,vB false)] [(1,0,cSV s)] fun _ _ => ?_
   refine cxs ?_
   exact cxs (Rt ⟨true,rfl,⟨fun _ => ⟨fun j x hx => hok j x (by have := (List.getElem?_eq_some_iff.1 hx).1; omega) hx,fun j x hx => hok2 j x (by have := (List.getElem?_eq_some_iff.1 hx).1; omega) hx⟩,fun _ => rfl⟩,rfl⟩)
  ·replace h1 : (i : Int) < (s.x.items.length : Int) := of_decide_eq_true h1
   refine Cm gg st [Ml 1 0,(43,vS s.p s.x.items.length),(44,vI (s.x.items.length : Int)),(45,vI (i : Int)),(46,vB true)] [(1,0,cSV s)] fun _ _ => ?_
   have h1' := Int.ofNat_lt.1 h1
   have ⟨b1,o1,k1,x,hpe,hx,hm1,hc1,hb1⟩ := hR.1.atB h1'
   refine cxs ?_
   refine ⟨_,op_idx (j := (i : Int)) (n := s.x.items.length) (q := ⟨b1,o1,none⟩) rfl (congrArg (fun u => vS u s.x.items.length) hpe) rfl rfl rfl (Int.natCast_nonneg _) h1,?_⟩
   refine ⟨_,op_lda rfl rfl rfl rfl rfl hm1 hc1 rfl,?_⟩
   refine ⟨_,rfl,?_⟩
   refine ⟨_,Os rfl,?_⟩
   refine Cm (gg + 1) st [Ml 1 0,(5,vI (i : Int)),Ml 6 gg,(43,vS s.p s.x.items.length),(44,vI (s.x.items.length : Int)),(45,vI (i : Int)),(46,vB true)] [(1,0,cSV s),(6,gg,[vI x.id,vI x.e.inc,vI x.e.rank,vI x.e.beat,vI x.e.ver,.string x.e.data])] fun _ _ => ?_
   refine ⟨_,rfl,?_⟩
   refine ⟨_,Od rfl,?_⟩
   refine ⟨_,rfl,(ac_impl_isNode x.id st).mono ?_⟩
   rintro _ st ⟨c,rfl,h2,rfl⟩
   rcases c with _|_
   ·replace h2 := of_decide_eq_false h2.symm
    iterate 4 refine ⟨_,rfl,?_⟩
    refine Cm (gg + 1) st [Ml 1 0,(5,vI (i : Int)),Ml 6 gg,(43,vS s.p s.x.items.length),(44,vI (s.x.items.length : Int)),(45,vI (i : Int)),(46,vB true),(85,vB true)] [(1,0,cSV s),(6,gg,[vI x.id,vI x.e.inc,vI x.e.rank,vI x.e.beat,vI x.e.ver,.string x.e.data])] fun _ _ => ?_
    exact cxs (Rt ⟨false,rfl,⟨fun h => absurd h Bool.false_ne_true,fun h => absurd (h.1 i x hx).1 h2⟩,rfl⟩)
   ·replace h2 := of_decide_eq_true h2.symm
    iterate 2 refine ⟨_,rfl,?_⟩
    refine ⟨_,Od rfl,?_⟩
    refine ⟨_,rfl,(ac_impl_EntryOk x.e st).mono ?_⟩
    rintro _ st ⟨d,rfl,h5,rfl⟩
    rcases d with _|_
    ·replace h5 := fun k => Bool.false_ne_true (h5.2 k)
     iterate 4 refine ⟨_,rfl,?_⟩
     refine Cm (gg + 1) st [Ml 1 0,(5,vI (i : Int)),Ml 6 gg,(43,vS s.p s.x.items.length),(44,vI (s.x.items.length : Int)),(45,vI (i : Int)),(46,vB true),(85,vB true)] [(1,0,cSV s),(6,gg,[vI x.id,vI x.e.inc,vI x.e.rank,vI x.e.beat,vI x.e.ver,.string x.e.data])] fun _ _ => ?_
     exact cxs (Rt ⟨false,rfl,⟨fun h => absurd h Bool.false_ne_true,fun h => absurd (h.1 i x hx).2.1 h5⟩,rfl⟩)
    ·replace h5 := h5.1 rfl
     iterate 4 refine ⟨_,rfl,?_⟩
     refine ⟨_,Od rfl,?_⟩
     refine ⟨ld_own rfl rfl rfl,?_⟩
     refine ⟨_,Od rfl,?_⟩
     refine ⟨_,rfl,?_⟩
     refine ⟨_,Od rfl,?_⟩
     refine ⟨_,rfl,(ac_impl_FloorOf s x.id st hR hb).mono ?_⟩
     rintro _ st ⟨rfl,rfl⟩
     refine ⟨fun _ _ => rfl,?_⟩
     refine ⟨_,rfl,?_⟩
     rintro (_|_) h6
     ·replace h6 : ¬ (x.e.inc ≤ floorOf s.x.floors x.id) := of_decide_eq_false h6
      iterate 2 refine ⟨_,rfl,?_⟩
      rintro (_|_) h3
      ·replace h3 : ¬ (0 < (i : Int)) := of_decide_eq_false h3
       iterate 2 refine ⟨_,rfl,?_⟩
       refine Cm (gg + 1) st [Ml 1 0,(5,vI (i : Int)),Ml 6 gg,(43,vS s.p s.x.items.length),(44,vI (s.x.items.length : Int)),(45,vI (i : Int)),(46,vB true),(85,vB false)] [(1,0,cSV s),(6,gg,[vI x.id,vI x.e.inc,vI x.e.rank,vI x.e.beat,vI x.e.ver,.string x.e.data])] fun _ _ => ?_
       refine cxs ?_
       have e86 : IntKind.wrap .i64 ((i : Int) + 1) = ((i + 1 : Nat) : Int) := (wrap_i64 (by omega) (by omega)).trans (by omega)
       refine ⟨_,rfl,?_⟩
       refine ⟨i + 1,s.x.items.length - (i + 1),by omega,⟨rfl,rfl,rfl,congrArg (Value.int .i64) e86,trivial⟩,⟨rfl,trivial⟩,rfl,h1',fun j u hj hu => ?_,rfl⟩
       rcases Nat.lt_or_ge j i with h | h
       ·exact hok j u h hu
       ·obtain rfl : j = i := by omega
        rw [hx] at hu
        injection hu with hu
        subst hu
        exact ⟨h2,h5,Int.not_le.1 h6,fun y h0 hy => absurd h0 (by omega)⟩
      ·replace h3 : 0 < (i : Int) := of_decide_eq_true h3
       refine ⟨_,rfl,?_⟩
       refine ⟨_,Od rfl,?_⟩
       have ⟨b2,o2,k2,y,hqe,hy,hm2,hc2,hb2⟩ := hR.1.atB (j := i - 1) (by omega)
       have e77 : IntKind.wrap .i64 ((i : Int) - 1) = ((i - 1 : Nat) : Int) := (wrap_i64 (by omega) (by omega)).trans (by omega)
       refine ⟨_,rfl,?_⟩
       refine ⟨_,op_idx (j := ((i - 1 : Nat) : Int)) (n := s.x.items.length) (q := ⟨b2,o2,none⟩) rfl (congrArg (fun u => vS u s.x.items.length) hqe) (congrArg (Value.int .i64) e77) rfl rfl (Int.natCast_nonneg _) (by omega),?_⟩
       refine ⟨_,rfl,?_⟩
       refine ⟨_,op_ldc (i := 0) rfl rfl rfl rfl hm2 hc2 rfl rfl,?_⟩
       refine ⟨_,rfl,?_⟩
       refine ⟨_,Od rfl,?_⟩
       refine ⟨_,rfl,?_⟩
       rintro (_|_) h4
       ·replace h4 : ¬ (x.id ≤ y.id) := of_decide_eq_false h4
        iterate 2 refine ⟨_,rfl,?_⟩
        refine Cm (gg + 1) st [Ml 1 0,(5,vI (i : Int)),Ml 6 gg,(43,vS s.p s.x.items.length),(44,vI (s.x.items.length : Int)),(45,vI (i : Int)),(46,vB true),(85,vB false)] [(1,0,cSV s),(6,gg,[vI x.id,vI x.e.inc,vI x.e.rank,vI x.e.beat,vI x.e.ver,.string x.e.data])] fun _ _ => ?_
        refine cxs ?_
        have e86 : IntKind.wrap .i64 ((i : Int) + 1) = ((i + 1 : Nat) : Int) := (wrap_i64 (by omega) (by omega)).trans (by omega)
        refine ⟨_,rfl,?_⟩
        refine ⟨i + 1,s.x.items.length - (i + 1),by omega,⟨rfl,rfl,rfl,congrArg (Value.int .i64) e86,trivial⟩,⟨rfl,trivial⟩,rfl,h1',fun j u hj hu => ?_,rfl⟩
        rcases Nat.lt_or_ge j i with h | h
        ·exact hok j u h hu
        ·obtain rfl : j = i := by omega
         rw [hx] at hu
         injection hu with hu
         subst hu
         refine ⟨h2,h5,Int.not_le.1 h6,fun z h0 hz => ?_⟩
         rw [hy] at hz
         injection hz with hz
         subst hz
         exact Int.not_le.1 h4
       ·replace h4 : x.id ≤ y.id := of_decide_eq_true h4
        iterate 2 refine ⟨_,rfl,?_⟩
        refine Cm (gg + 1) st [Ml 1 0,(5,vI (i : Int)),Ml 6 gg,(43,vS s.p s.x.items.length),(44,vI (s.x.items.length : Int)),(45,vI (i : Int)),(46,vB true),(85,vB true)] [(1,0,cSV s),(6,gg,[vI x.id,vI x.e.inc,vI x.e.rank,vI x.e.beat,vI x.e.ver,.string x.e.data])] fun _ _ => ?_
        exact cxs (Rt ⟨false,rfl,⟨fun h => absurd h Bool.false_ne_true,fun h => absurd ((h.1 i x hx).2.2.2 y (by omega) hy) (Int.not_lt.2 h4)⟩,rfl⟩)
     ·replace h6 : x.e.inc ≤ floorOf s.x.floors x.id := of_decide_eq_true h6
      iterate 2 refine ⟨_,rfl,?_⟩
      refine Cm (gg + 1) st [Ml 1 0,(5,vI (i : Int)),Ml 6 gg,(43,vS s.p s.x.items.length),(44,vI (s.x.items.length : Int)),(45,vI (i : Int)),(46,vB true),(85,vB true)] [(1,0,cSV s),(6,gg,[vI x.id,vI x.e.inc,vI x.e.rank,vI x.e.beat,vI x.e.ver,.string x.e.data])] fun _ _ => ?_
      exact cxs (Rt ⟨false,rfl,⟨fun h => absurd h Bool.false_ne_true,fun h => absurd (h.1 i x hx).2.2.1 (Int.not_lt.2 h6)⟩,rfl⟩)
 ·replace h7 : (v : Int) < (s.x.floors.length : Int) := of_decide_eq_true h7
  refine Cm gg st [Ml 1 0,(8,vS s.q s.x.floors.length),(9,vI (s.x.floors.length : Int)),(10,vI (v : Int)),(11,vB true)] [(1,0,cSV s)] fun _ _ => ?_
  have h7' := Int.ofNat_lt.1 h7
  have ⟨b3,o3,k3,x,hpe,hx,hm1,hc1,hb1⟩ := hR.2.atB h7'
  refine cxs ?_
  refine ⟨_,op_idx (j := (v : Int)) (n := s.x.floors.length) (q := ⟨b3,o3,none⟩) rfl (congrArg (fun u => vS u s.x.floors.length) hpe) rfl rfl rfl (Int.natCast_nonneg _) h7,?_⟩
  refine ⟨_,op_lda rfl rfl rfl rfl rfl hm1 hc1 rfl,?_⟩
  refine ⟨_,rfl,?_⟩
  refine ⟨_,Os rfl,?_⟩
  refine Cm (gg + 1) st [Ml 1 0,(3,vI (v : Int)),Ml 4 gg,(8,vS s.q s.x.floors.length),(9,vI (s.x.floors.length : Int)),(10,vI (v : Int)),(11,vB true)] [(1,0,cSV s),(4,gg,[vI x.id,vI x.inc])] fun _ _ => ?_
  refine ⟨_,rfl,?_⟩
  refine ⟨_,Od rfl,?_⟩
  refine ⟨_,rfl,(ac_impl_isNode x.id st).mono ?_⟩
  rintro _ st ⟨c,rfl,h8,rfl⟩
  rcases c with _|_
  ·replace h8 := of_decide_eq_false h8.symm
   iterate 3 refine ⟨_,rfl,?_⟩
   refine Cm (gg + 1) st [Ml 1 0,(3,vI (v : Int)),Ml 4 gg,(8,vS s.q s.x.floors.length),(9,vI (s.x.floors.length : Int)),(10,vI (v : Int)),(11,vB true),(40,vB true)] [(1,0,cSV s),(4,gg,[vI x.id,vI x.inc])] fun _ _ => ?_
   exact cxs (Rt ⟨false,rfl,⟨fun h => absurd h Bool.false_ne_true,fun h => absurd (h.2 v x hx).1 h8⟩,rfl⟩)
  ·replace h8 := of_decide_eq_true h8.symm
   iterate 2 refine ⟨_,rfl,?_⟩
   refine ⟨_,Od rfl,?_⟩
   refine ⟨_,rfl,(ac_impl_within x.inc 1 1000 st).mono ?_⟩
   rintro _ st ⟨d,rfl,h11,rfl⟩
   rcases d with _|_
   ·replace h11 := of_decide_eq_false h11.symm
    iterate 3 refine ⟨_,rfl,?_⟩
    refine Cm (gg + 1) st [Ml 1 0,(3,vI (v : Int)),Ml 4 gg,(8,vS s.q s.x.floors.length),(9,vI (s.x.floors.length : Int)),(10,vI (v : Int)),(11,vB true),(40,vB true)] [(1,0,cSV s),(4,gg,[vI x.id,vI x.inc])] fun _ _ => ?_
    exact cxs (Rt ⟨false,rfl,⟨fun h => absurd h Bool.false_ne_true,fun h => absurd (h.2 v x hx).2.1 h11⟩,rfl⟩)
   ·replace h11 := of_decide_eq_true h11.symm
    iterate 3 refine ⟨_,rfl,?_⟩
    rintro (_|_) h9
    ·replace h9 : ¬ (0 < (v : Int)) := of_decide_eq_false h9
     iterate 2 refine ⟨_,rfl,?_⟩
     refine Cm (gg + 1) st [Ml 1 0,(3,vI (v : Int)),Ml 4 gg,(8,vS s.q s.x.floors.length),(9,vI (s.x.floors.length : Int)),(10,vI (v : Int)),(11,vB true),(40,vB false)] [(1,0,cSV s),(4,gg,[vI x.id,vI x.inc])] fun _ _ => ?_
     refine cxs ?_
     have e41 : IntKind.wrap .i64 ((v : Int) + 1) = ((v + 1 : Nat) : Int) := (wrap_i64 (by omega) (by omega)).trans (by omega)
     refine ⟨_,rfl,?_⟩
     refine ⟨v + 1,s.x.floors.length - (v + 1),by omega,⟨rfl,rfl,rfl,congrArg (Value.int .i64) e41,trivial⟩,⟨rfl,trivial⟩,rfl,h7',fun j u hj hu => ?_,rfl⟩
     rcases Nat.lt_or_ge j v with h | h
     ·exact hok2 j u h hu
     ·obtain rfl : j = v := by omega
      rw [hx] at hu
      injection hu with hu
      subst hu
      exact ⟨h8,h11,fun y h0 hy => absurd h0 (by omega)⟩
    ·replace h9 : 0 < (v : Int) := of_decide_eq_true h9
     refine ⟨_,rfl,?_⟩
     refine ⟨_,Od rfl,?_⟩
     have ⟨b2,o2,k2,y,hqe,hy,hm2,hc2,hb2⟩ := hR.2.atB (j := v - 1) (by omega)
     have e32 : IntKind.wrap .i64 ((v : Int) - 1) = ((v - 1 : Nat) : Int) := (wrap_i64 (by omega) (by omega)).trans (by omega)
     refine ⟨_,rfl,?_⟩
     refine ⟨_,op_idx (j := ((v - 1 : Nat) : Int)) (n := s.x.floors.length) (q := ⟨b2,o2,none⟩) rfl (congrArg (fun u => vS u s.x.floors.length) hqe) (congrArg (Value.int .i64) e32) rfl rfl (Int.natCast_nonneg _) (by omega),?_⟩
     refine ⟨_,rfl,?_⟩
     refine ⟨_,op_ldc (i := 0) rfl rfl rfl rfl hm2 hc2 rfl rfl,?_⟩
     refine ⟨_,rfl,?_⟩
     refine ⟨_,Od rfl,?_⟩
     refine ⟨_,rfl,?_⟩
     rintro (_|_) h10
     ·replace h10 : ¬ (x.id ≤ y.id) := of_decide_eq_false h10
      iterate 2 refine ⟨_,rfl,?_⟩
      refine Cm (gg + 1) st [Ml 1 0,(3,vI (v : Int)),Ml 4 gg,(8,vS s.q s.x.floors.length),(9,vI (s.x.floors.length : Int)),(10,vI (v : Int)),(11,vB true),(40,vB false)] [(1,0,cSV s),(4,gg,[vI x.id,vI x.inc])] fun _ _ => ?_
      refine cxs ?_
      have e41 : IntKind.wrap .i64 ((v : Int) + 1) = ((v + 1 : Nat) : Int) := (wrap_i64 (by omega) (by omega)).trans (by omega)
      refine ⟨_,rfl,?_⟩
      refine ⟨v + 1,s.x.floors.length - (v + 1),by omega,⟨rfl,rfl,rfl,congrArg (Value.int .i64) e41,trivial⟩,⟨rfl,trivial⟩,rfl,h7',fun j u hj hu => ?_,rfl⟩
      rcases Nat.lt_or_ge j v with h | h
      ·exact hok2 j u h hu
      ·obtain rfl : j = v := by omega
       rw [hx] at hu
       injection hu with hu
       subst hu
       refine ⟨h8,h11,fun z h0 hz => ?_⟩
       rw [hy] at hz
       injection hz with hz
       subst hz
       exact Int.not_le.1 h10
     ·replace h10 : x.id ≤ y.id := of_decide_eq_true h10
      iterate 2 refine ⟨_,rfl,?_⟩
      refine Cm (gg + 1) st [Ml 1 0,(3,vI (v : Int)),Ml 4 gg,(8,vS s.q s.x.floors.length),(9,vI (s.x.floors.length : Int)),(10,vI (v : Int)),(11,vB true),(40,vB true)] [(1,0,cSV s),(4,gg,[vI x.id,vI x.inc])] fun _ _ => ?_
      exact cxs (Rt ⟨false,rfl,⟨fun h => absurd h Bool.false_ne_true,fun h => absurd ((h.2 v x hx).2.2 y (by omega) hy) (Int.not_lt.2 h10)⟩,rfl⟩)
theorem row_sub {cs r q : List Value} {d z i n : Nat} (hc : (cs.drop d).take z = r) (hq : (r.drop i).take n = q) (hle : i + n ≤ z) : (cs.drop (d + i)).take n = q := by
 subst hc hq
 rw [List.drop_take,List.take_take,List.drop_drop,Nat.min_eq_left (by omega)]
theorem Pr.low {p : Option Addr} {st0 s s' : St} (h : Pr p s s') (hP : Pres st0 s) (hN : New st0.next p) : ∀ a,a < st0.next → s'.mem a = s.mem a :=
 fun a ha => h.2 a (Nat.lt_of_lt_of_le ha hP.1) fun q hq e => by have := hN q hq; omega
theorem Pres.low {st0 s s' : St} (h : Pres s s') (hP : Pres st0 s) : ∀ a,a < st0.next → s'.mem a = s.mem a := fun a ha => h.2 a (Nat.lt_of_lt_of_le ha hP.1)
def entP : List Itm → Int → Ent × Bool
 | [],_ => (zEnt,false)
 | x :: l,id => if x.id = id then (x.e,true) else entP l id
theorem ac_spec_EntryOf (s : SV) (id : Int) (st : St) (hR : RdS st s) (hb : bigS s.x) : C 154 [.agg #[vS s.p s.x.items.length,vS s.q s.x.floors.length],vI id] st (fun v s' => ∃ e b,v = .tuple #[.agg #[vI e.inc,vI e.rank,vI e.beat,vI e.ver,.string e.data],vB b] ∧ (e,b) = entP s.x.items id ∧ s' = st) := by
 have hs1 : s.x.items.length ≤ 1048576 := hb.1
 refine AC.enterX (i := ⟨[2,4],[2,4,8,14,22],[0,1,2,4,5,6,11,21],[]⟩) [] Try.func154 rfl rfl (by kernel_rfl) (by kernel_rfl) Try.ntmps154 (Lb rfl) rfl ?_
 iterate 2 refine ⟨_,rfl,?_⟩
 refine cxs ?_
 refine Cm 2 st [(1,vI id),Ml 2 0,Ml 4 1,(5,vB false),(6,vI 0)] [(2,0,cSV s),(4,1,[vI 0,vI 0,vI 0,vI 0,.string ⟨#[]⟩])] fun _ _ => ?_
 refine AW.loopM (fun i : Nat => [(1,vI id),(2,vL 2 0 (0)),(4,vL 4 0 (1)),(5,vB false),(6,vI (i : Int))]) (fun i : Nat => [(2,0,[vS s.p s.x.items.length,vS s.q s.x.floors.length]),(4,1,[vI 0,vI 0,vI 0,vI 0,.string ⟨#[]⟩])]) (fun m (i : Nat) st' => m = s.x.items.length - i ∧ i ≤ s.x.items.length ∧ entP s.x.items id = entP (s.x.items.drop i) id ∧ st = st') 0 _ ⟨rfl,rfl,rfl,rfl,rfl,trivial⟩ ⟨rfl,rfl,trivial⟩ ⟨rfl,Nat.zero_le _,rfl,rfl⟩ ?_
 rintro m i ρ0 ff gg st' ⟨rfl,hi,hf,rfl⟩
 refine ⟨_,rfl,?_⟩
 refine ⟨_,Od rfl,?_⟩
 iterate 2 refine ⟨_,rfl,?_⟩
 rintro (_|_) h1
 ·replace h1 : ¬ ((i : Int) < (s.x.items.length : Int)) := of_decide_eq_false h1
  refine Cm gg st [(1,vI id),Ml 2 0,Ml 4 1,(5,vB false),(6,vI (i : Int)),(11,vB false)] [(2,0,cSV s),(4,1,[vI 0,vI 0,vI 0,vI 0,.string ⟨#[]⟩])] fun _ _ => ?_
  refine cxs ?_
  refine ⟨_,rfl,?_⟩
  refine ⟨_,Os rfl,?_⟩
  refine cxs ?_
  have hil : i = s.x.items.length := by omega
  exact Rt ⟨zEnt,false,rfl,by rw [hf,hil,List.drop_length]; rfl,rfl⟩
 ·replace h1 : (i : Int) < (s.x.items.length : Int) := of_decide_eq_true h1
  refine Cm gg st [(1,vI id),Ml 2 0,Ml 4 1,(5,vB false),(6,vI (i : Int)),(11,vB true)] [(2,0,cSV s),(4,1,[vI 0,vI 0,vI 0,vI 0,.string ⟨#[]⟩])] fun _ _ => ?_
  have h1' := Int.ofNat_lt.1 h1
  have ⟨b1,o1,k1,x,hpe,hx,hm1,hc1,hb1⟩ := hR.1.atB h1'
  rw [(split_at' hx).2.2,entP] at hf
  have hc5 : (k1.cells.drop (o1 + i * 6 + 1)).take 5 = cEnt x.e := row_sub (i := 1) hc1 rfl (by decide)
  refine cxs ?_
  refine ⟨_,rfl,?_⟩
  refine ⟨_,Od rfl,?_⟩
  refine ⟨_,op_idx (j := (i : Int)) (n := s.x.items.length) (q := ⟨b1,o1,none⟩) rfl (congrArg (fun u => vS u s.x.items.length) hpe) rfl rfl rfl (Int.natCast_nonneg _) h1,?_⟩
  refine ⟨_,rfl,?_⟩
  refine ⟨_,op_ldc (i := 0) rfl rfl rfl rfl hm1 hc1 rfl rfl,?_⟩
  refine ⟨_,rfl,?_⟩
  rintro (_|_) h2
  ·replace h2 : ¬ (x.id = id) := beq_eq_false_iff_ne.1 h2
   refine Cm gg st [(1,vI id),Ml 2 0,Ml 4 1,(5,vB false),(6,vI (i : Int)),(11,vB true),(21,vB false)] [(2,0,cSV s),(4,1,[vI 0,vI 0,vI 0,vI 0,.string ⟨#[]⟩])] fun _ _ => ?_
   refine cxs ?_
   have e13 : IntKind.wrap .i64 ((i : Int) + 1) = ((i + 1 : Nat) : Int) := (wrap_i64 (by omega) (by omega)).trans (by omega)
   refine ⟨_,rfl,?_⟩
   exact ⟨i + 1,s.x.items.length - (i + 1),by omega,⟨rfl,rfl,rfl,rfl,congrArg (Value.int .i64) e13,trivial⟩,⟨rfl,rfl,trivial⟩,rfl,h1',by rw [hf,if_neg h2],rfl⟩
  ·replace h2 : x.id = id := beq_iff_eq.1 h2
   refine Cm gg st [(1,vI id),Ml 2 0,Ml 4 1,(5,vB false),(6,vI (i : Int)),(11,vB true),(21,vB true)] [(2,0,cSV s),(4,1,[vI 0,vI 0,vI 0,vI 0,.string ⟨#[]⟩])] fun _ _ => ?_
   refine ⟨_,rfl,?_⟩
   refine ⟨_,Od rfl,?_⟩
   refine ⟨_,op_idx (j := (i : Int)) (n := s.x.items.length) (q := ⟨b1,o1,none⟩) rfl (congrArg (fun u => vS u s.x.items.length) hpe) rfl rfl rfl (Int.natCast_nonneg _) h1,?_⟩
   refine ⟨_,rfl,?_⟩
   refine ⟨_,op_lda rfl rfl rfl rfl rfl hm1 hc5 rfl,?_⟩
   refine ⟨_,Os rfl,?_⟩
   exact cxs (Rt ⟨x.e,true,rfl,by rw [hf,if_pos h2],rfl⟩)
open Classical in
noncomputable def goneAt (s : Sta) (id : Int) : Int :=
 if stateOk s then (if (entP s.items id).2 = true then (if (entP s.items id).1.rank = 1 then (entP s.items id).1.inc else (entP s.items id).1.inc - 1) else floorOf s.floors id) else 0
theorem entP_mem : ∀ {l : List Itm} {id : Int} {e : Ent},(e,true) = entP l id → ∃ (j : Nat) (x : Itm),l[j]? = some x ∧ x.e = e ∧ x.id = id
 | [],id,e,h => by simp [entP] at h
 | x :: l,id,e,h => by
  rw [entP] at h
  split at h
  ·rename_i hx
   injection h with h
   exact ⟨0,x,rfl,h.symm,hx⟩
  ·obtain ⟨j,y,h1,h2⟩ := entP_mem h
   exact ⟨j + 1,y,by simpa using h1,h2⟩
theorem ent_ok {s : Sta} (h : stateOk s) {id : Int} {e : Ent} (he : (e,true) = entP s.items id) : entOk e := by
 obtain ⟨j,x,h1,h2,_⟩ := entP_mem he
 rw [← h2]; exact (h.1 j x h1).2.1
theorem ac_spec_GoneAt (s : SV) (id : Int) (st : St) (hR : RdS st s) (hb : bigS s.x) : C 178 [.agg #[vS s.p s.x.items.length,vS s.q s.x.floors.length],vI id] st (fun v s' => v = vI (goneAt s.x id) ∧ s' = st) := by
 refine AC.enterX (i := ⟨[2,5],[2,5,21,24,27],[0,1,2,4,5,6,9,17,23],[]⟩) [] Try.func178 rfl rfl (by kernel_rfl) (by kernel_rfl) Try.ntmps178 (Lb rfl) rfl ?_
 refine ⟨_,rfl,?_⟩
 refine Cm 1 st [(1,vI id),Ml 2 0,(4,vI 0)] [(2,0,cSV s)] fun _ _ => ?_
 refine ⟨_,rfl,?_⟩
 refine ⟨_,rfl,(ac_spec_StateOk s st hR hb).mono ?_⟩
 rintro _ st ⟨c,rfl,hk,rfl⟩
 rcases c with _|_
 ·replace hk := fun k => Bool.false_ne_true (hk.2 k)
  refine ⟨_,rfl,?_⟩
  refine Cm 1 st [(1,vI id),Ml 2 0,(4,vI 0),(9,vB true)] [(2,0,cSV s)] fun _ _ => ?_
  exact cxs (Rt ⟨congrArg vI (by rw [goneAt,if_neg hk]),rfl⟩)
 ·replace hk := hk.1 rfl
  refine ⟨_,rfl,?_⟩
  refine Cm 1 st [(1,vI id),Ml 2 0,(4,vI 0),(9,vB false)] [(2,0,cSV s)] fun _ _ => ?_
  refine cxs ?_
  refine ⟨_,rfl,?_⟩
  refine ⟨_,rfl,(ac_spec_EntryOf s id st hR hb).mono ?_⟩
  rintro _ st ⟨e,b,rfl,he,rfl⟩
  rcases b with _|_
  ·iterate 4 refine ⟨_,rfl,?_⟩
   refine Cm 2 st [(1,vI id),Ml 2 0,(4,vI 0),Ml 5 1,(6,vB false)] [(2,0,cSV s),(5,1,[vI e.inc,vI e.rank,vI e.beat,vI e.ver,.string e.data])] fun _ _ => ?_
   refine ⟨_,rfl,?_⟩
   refine Cm 2 st [(1,vI id),Ml 2 0,(4,vI 0),Ml 5 1,(17,vB true)] [(2,0,cSV s),(5,1,[vI e.inc,vI e.rank,vI e.beat,vI e.ver,.string e.data])] fun _ _ => ?_
   refine ⟨_,rfl,?_⟩
   refine ⟨_,rfl,(ac_spec_FloorOf s id st hR hb).mono ?_⟩
   rintro _ st ⟨rfl,rfl⟩
   exact cxs (Rt ⟨congrArg vI (by simp [goneAt,hk,← he]),rfl⟩)
  ·iterate 4 refine ⟨_,rfl,?_⟩
   refine Cm 2 st [(1,vI id),Ml 2 0,(4,vI 0),Ml 5 1,(6,vB true)] [(2,0,cSV s),(5,1,[vI e.inc,vI e.rank,vI e.beat,vI e.ver,.string e.data])] fun _ _ => ?_
   refine ⟨_,rfl,?_⟩
   refine Cm 2 st [(1,vI id),Ml 2 0,(4,vI 0),Ml 5 1,(17,vB false)] [(2,0,cSV s),(5,1,[vI e.inc,vI e.rank,vI e.beat,vI e.ver,.string e.data])] fun _ _ => ?_
   refine cxs ?_
   iterate 3 refine ⟨_,rfl,?_⟩
   rintro (_|_) h3
   ·replace h3 : ¬ (e.rank = 0) := beq_eq_false_iff_ne.1 h3
    refine Cm 2 st [(4,vI 0),Ml 5 1,(23,vB false)] [(5,1,[vI e.inc,vI e.rank,vI e.beat,vI e.ver,.string e.data])] fun _ _ => ?_
    refine cxs ?_
    iterate 2 refine ⟨_,rfl,?_⟩
    refine cxs ?_
    have hr := (ent_ok hk he).2.1
    have h4 : e.rank = 1 := by omega
    exact Rt ⟨congrArg vI (by simp [goneAt,hk,← he,h4]),rfl⟩
   ·replace h3 : e.rank = 0 := beq_iff_eq.1 h3
    refine Cm 2 st [(4,vI 0),Ml 5 1,(23,vB true)] [(5,1,[vI e.inc,vI e.rank,vI e.beat,vI e.ver,.string e.data])] fun _ _ => ?_
    iterate 2 refine ⟨_,rfl,?_⟩
    have hee := (ent_ok hk he).1
    have e26 : IntKind.wrap .i64 (e.inc - 1) = e.inc - 1 := wrap_i64 (by omega) (by omega)
    refine ⟨_,rfl,?_⟩
    exact cxs (Rt ⟨congrArg vI (by simp [goneAt,hk,← he,h3,e26]),rfl⟩)
def marksF (g : Int → Int) (i : Nat) : List Flr := (List.range i).filterMap fun (j : Nat) => if g (j : Int) > 0 then some ⟨(j : Int),g (j : Int)⟩ else none
theorem marksF_succ (g : Int → Int) (i : Nat) : marksF g (i + 1) = if g (i : Int) > 0 then marksF g i ++ [⟨(i : Int),g (i : Int)⟩] else marksF g i := by
 unfold marksF
 rw [List.range_succ,List.filterMap_append]
 split <;> simp [*]
theorem marksF_len (g : Int → Int) : ∀ i,(marksF g i).length ≤ i
 | 0 => by simp [marksF]
 | i + 1 => by
  have := marksF_len g i
  rw [marksF_succ]
  split <;> simp <;> omega
theorem ac_spec_MarksOf (s : SV) (st : St) (hR : RdS st s) (hb : bigS s.x) : C 150 [.agg #[vS s.p s.x.items.length,vS s.q s.x.floors.length]] st (fun v s' => ∃ q,v = vS q (marksF (goneAt s.x) 5).length ∧ OwnR s' 2 cFlr q (marksF (goneAt s.x) 5) ∧ Pres st s' ∧ New st.next q) := by
 refine AC.enterX (i := ⟨[1],[1],[0,1,2,3,4,5,8,15],[]⟩) [] Try.func150 rfl rfl (by kernel_rfl) (by kernel_rfl) Try.ntmps150 (Lb rfl) rfl ?_
 refine ⟨_,rfl,?_⟩
 refine Cm 1 st [Ml 1 0,(2,Sn)] [(1,0,cSV s)] fun _ _ => ?_
 refine op_nilK (z := 2) (f := cFlr) rfl rfl rfl rfl (by decide) rfl ?_
 intro q0 s0 hO0 hP0 hN0
 refine cxs ?_
 refine Cm 1 s0 [Ml 1 0,(2,Sn),(3,vS q0 0),(4,vI 0)] [(1,0,cSV s)] fun _ _ => ?_
 refine AW.loopM (fun x : Nat × Option Addr => [(1,vL 1 0 (0)),(3,vS x.2 (marksF (goneAt s.x) x.1).length),(4,vI (x.1 : Int))]) (fun x : Nat × Option Addr => [(1,0,[vS s.p s.x.items.length,vS s.q s.x.floors.length])]) (fun m (x : Nat × Option Addr) st' => m = 5 - x.1 ∧ x.1 ≤ 5 ∧ OwnR st' 2 cFlr x.2 (marksF (goneAt s.x) x.1) ∧ New st.next x.2 ∧ Pres st st') (0,q0) _ ⟨rfl,rfl,rfl,trivial⟩ ⟨rfl,trivial⟩ ⟨rfl,Nat.zero_le _,(show OwnR s0 2 cFlr q0 (marksF (goneAt s.x) 0) from hO0),hN0,hP0⟩ ?_
 rintro m x ρ0 ff gg st' ⟨rfl,hi,hO,hN,hP⟩
 have hml := marksF_len (goneAt s.x) x.1
 refine ⟨_,rfl,?_⟩
 rintro (_|_) h1
 ·replace h1 : ¬ ((x.1 : Int) < 5) := of_decide_eq_false h1
  refine Cm gg st' [Ml 1 0,(3,vS x.2 (marksF (goneAt s.x) x.1).length),(4,vI (x.1 : Int)),(8,vB false)] [(1,0,cSV s)] fun _ _ => ?_
  refine cxs ?_
  refine cxs ?_
  have hil : x.1 = 5 := by omega
  rw [hil] at hO
  exact Rt ⟨x.2,congrArg (fun i => vS x.2 (marksF (goneAt s.x) i).length) hil,hO,hP,hN⟩
 ·replace h1 : (x.1 : Int) < 5 := of_decide_eq_true h1
  refine Cm gg st' [Ml 1 0,(3,vS x.2 (marksF (goneAt s.x) x.1).length),(4,vI (x.1 : Int)),(8,vB true)] [(1,0,cSV s)] fun _ _ => ?_
  refine cxs ?_
  refine ⟨_,Od rfl,?_⟩
  refine ⟨_,rfl,(ac_spec_GoneAt s x.1 st' (hR.pres hP) hb).mono ?_⟩
  rintro _ st' ⟨rfl,rfl⟩
  refine Cm gg st' [Ml 1 0,(3,vS x.2 (marksF (goneAt s.x) x.1).length),(4,vI (x.1 : Int)),(5,vI (goneAt s.x (x.1 : Int))),(8,vB true)] [(1,0,cSV s)] fun _ _ => ?_
  refine ⟨_,rfl,?_⟩
  rintro (_|_) h2
  ·replace h2 : ¬ (goneAt s.x (x.1 : Int) > 0) := of_decide_eq_false h2
   refine Cm gg st' [Ml 1 0,(3,vS x.2 (marksF (goneAt s.x) x.1).length),(4,vI (x.1 : Int)),(5,vI (goneAt s.x (x.1 : Int))),(8,vB true),(15,vB false)] [(1,0,cSV s)] fun _ _ => ?_
   refine cxs ?_
   have e10 : IntKind.wrap .i64 ((x.1 : Int) + 1) = ((x.1 + 1 : Nat) : Int) := (wrap_i64 (by omega) (by omega)).trans (by omega)
   refine ⟨_,rfl,?_⟩
   have hm := marksF_succ (goneAt s.x) x.1
   rw [if_neg h2] at hm
   exact ⟨(x.1 + 1,x.2),5 - (x.1 + 1),by omega,⟨rfl,congrArg (fun l : List Flr => vS x.2 l.length) hm.symm,congrArg (Value.int .i64) e10,trivial⟩,⟨rfl,trivial⟩,rfl,by omega,by rw [hm]; exact hO,hN,hP⟩
  ·replace h2 : goneAt s.x (x.1 : Int) > 0 := of_decide_eq_true h2
   refine Cm gg st' [Ml 1 0,(3,vS x.2 (marksF (goneAt s.x) x.1).length),(4,vI (x.1 : Int)),(5,vI (goneAt s.x (x.1 : Int))),(8,vB true),(15,vB true)] [(1,0,cSV s)] fun _ _ => ?_
   refine ⟨_,rfl,?_⟩
   refine op_one (z := 2) (a := (⟨(x.1 : Int),goneAt s.x (x.1 : Int)⟩ : Flr)) (f := cFlr) rfl rfl rfl rfl rfl (by decide) rfl (Lb rfl) rfl rfl rfl ?_
   refine op_add (z := 2) (st := st') (f := cFlr) (b := 16) (l := marksF (goneAt s.x) x.1) rfl rfl rfl rfl rfl rfl rfl (by decide) len_cFlr rfl rfl rfl (by omega) (by unfold maxLen; omega) hO ?_
   intro q4 s4 hO4 hP4 hN4
   refine Cm gg s4 [Ml 1 0,(3,vS q4 ((marksF (goneAt s.x) x.1).length + 1)),(4,vI (x.1 : Int)),(5,vI (goneAt s.x (x.1 : Int))),(8,vB true),(15,vB true)] [(1,0,cSV s)] fun _ _ => ?_
   have e10 : IntKind.wrap .i64 ((x.1 : Int) + 1) = ((x.1 + 1 : Nat) : Int) := (wrap_i64 (by omega) (by omega)).trans (by omega)
   refine ⟨_,rfl,?_⟩
   have hm := marksF_succ (goneAt s.x) x.1
   rw [if_pos h2] at hm
   exact ⟨(x.1 + 1,q4),5 - (x.1 + 1),by omega,⟨rfl,(show vS q4 ((marksF (goneAt s.x) x.1).length + 1) = vS q4 (marksF (goneAt s.x) (x.1 + 1)).length by rw [hm,List.length_append]; rfl),congrArg (Value.int .i64) e10,trivial⟩,⟨rfl,trivial⟩,rfl,by omega,by rw [hm]; exact hO4,hN4.le hP.1,hP4.pres hP hN⟩
abbrev fB : Int → List Value := fun x => [.int .u8 x]
theorem fB_len (x : Int) : (fB x).length = 1 := rfl
def toB (l : List Int) : ByteArray := ⟨(l.map fun x => UInt8.ofNat x.toNat).toArray⟩
theorem abytes_ints : ∀ l : List Int,abytes (l.flatMap fB) = some (l.map fun x => UInt8.ofNat x.toNat)
 | [] => rfl
 | x :: l => by
  rw [List.flatMap_cons]
  show (abytes (l.flatMap fB)).map (UInt8.ofNat x.toNat :: ·) = _
  rw [abytes_ints l]
  rfl
section
variable {P : Program} {ls : List Tmp} {call : ACallT} {o : Oper} {e : Operand → Value} {lo : Lo} {st : St}
theorem op_quo {t ty : TypeId} {x y : Operand} {k : IntKind} {a b : Int} (ho : o.op = .binOp .quo t x y ty) (hx : e x = .int k a) (hy : e y = .int k b) (hb : b ≠ 0) : aoper P ls call o e lo st = some (.int k (k.wrap (a.tdiv b)),lo,st) := by
 obtain ⟨d,op,tt,pos,after,gd⟩ := o
 simp only at ho
 subst ho
 simp [aoper,rop,hx,hy,abin,aint,hb]
end
theorem toB_size (l : List Int) : (toB l).size = l.length := by simp [toB,ByteArray.size]
theorem wrap_u8 {i : Int} (h0 : 0 ≤ i) (h : i < 256) : IntKind.wrap .u8 i = i := by
 unfold IntKind.wrap; simp [IntKind.bits,IntKind.signed]; omega
theorem len_cSV (s : SV) : (cSV s).length = 2 := rfl
def RdL (st : St) (p : Option Addr) (l : List SV) : Prop := Rows st 2 cSV p l ∧ ∀ s ∈ l,RdS st s
abbrev pcL (p : Option Addr) (l : List SV) : List Pc := pcR 2 cSV p l :: l.flatMap pcS
theorem RdL.pres {st st' : St} {p : Option Addr} {l : List SV} (h : RdL st p l) (k : Pres st st') : RdL st' p l := ⟨k.rows h.1,fun s hs => (h.2 s hs).pres k⟩
theorem OwnP.louter {st : St} {p : Option Addr} {l : List SV} {m : List Pc} (h : OwnP st (pcR 2 cSV p l :: m)) : OwnR st 2 cSV p l := pc_own (by decide) len_cSV (h.1 _ (List.mem_cons_self ..))
theorem OwnP.sub {st : St} {l m : List Pc} (h : OwnP st l) (hs : m.Sublist l) : OwnP st m := ⟨fun c hc => h.1 c (hs.subset hc),h.2.sublist hs⟩
structure Lg where
 cap : Int
 frm : Int
 list : List Sta
structure LV where
 cap : Int
 frm : Int
 p : Option Addr
 l : List SV
abbrev LV.x (g : LV) : Lg := ⟨g.cap,g.frm,g.l.map (·.x)⟩
theorem PrL.ownR {α : Type} {st st' : St} {ps : List (Option Addr)} {z : Nat} {f : α → List Value} {q : Option Addr} {l : List α} (h0 : 0 < z) (hz : ∀ x,(f x).length = z) (h : PrL ps st st') (hO : OwnR st z f q l) (hd : ∀ p ∈ ps,Dis p q) : OwnR st' z f q l :=
 pc_own h0 hz ((OwnP.prl (OwnP.one (own_pc hO)) h fun c hc p hp => by rw [List.mem_singleton.1 hc]; exact hd p hp).1 _ (List.mem_singleton_self _))
def shO (p : Option Addr) (z i : Nat) : Option Addr := p.map fun q => ⟨q.block,q.off + i * z,q.spot⟩
theorem Rows.sh {α : Type} {st : St} {z : Nat} {f : α → List Value} {p : Option Addr} {l : List α} (h : Rows st z f p l) (i : Nat) : Rows st z f (shO p z i) (l.drop i) := by
 rcases h with rfl | ⟨b,off,blk,rfl,hm,hb,hc⟩
 ·exact .inl List.drop_nil
 ·exact Rows.drop (.inr ⟨b,off,blk,rfl,hm,hb,hc⟩) i
theorem Dis.sh {p q : Option Addr} {z i : Nat} (h : Dis p q) : Dis (shO p z i) q := fun a b ha hb => by
 cases p with
 | none => cases ha
 | some c => injection ha with ha; rw [← ha]; exact h c b rfl hb
theorem New.sh {n : Nat} {p : Option Addr} {z i : Nat} (h : New n p) : New n (shO p z i) := fun a ha => by
 cases p with
 | none => cases ha
 | some c => injection ha with ha; rw [← ha]; exact h c rfl
section
variable {P : Program} {ls : List Tmp} {call : ACallT} {o : Oper} {e : Operand → Value} {lo : Lo} {st : St}
theorem op_slc {t el : TypeId} {x y : Operand} {p : Option Addr} {n j z : Nat} {k : IntKind} {i : Int} (ho : o.op = .slice t x (some y) none none) (hx : e x = .slice p n n) (hy : e y = .int k i) (he : telem P t = some el) (hz : tsize P el = some z) (hi : i = (j : Int)) (hj : j ≤ n) : aoper P ls call o e lo st = some (.slice (shO p z j) (n - j) (n - j),lo,st) := by
 obtain ⟨d,op,tt,pos,after,gd⟩ := o
 simp only at ho
 subst ho hi
 simp [aoper,rop,aslice,abound,hx,hy,he,hz,hj,shO]
end
theorem op_drop {α : Type} {P : Program} {ls : List Tmp} {call : ACallT} {o : Oper} {e : Operand → Value} {lo : Lo} {st : St} {t el : TypeId} {x y : Operand} {p : Option Addr} {n z : Nat} {k : IntKind} {i : Int} (l : List α) (j : Nat) (ho : o.op = .slice t x (some y) none none) (hx : e x = .slice p n n) (hn : n = l.length) (hy : e y = .int k i) (he : telem P t = some el) (hz : tsize P el = some z) (hi : i = (j : Int)) (hj : j ≤ l.length) : aoper P ls call o e lo st = some (.slice (shO p z j) (l.drop j).length (l.drop j).length,lo,st) := by
 subst hn
 rw [List.length_drop]
 exact op_slc ho hx hy he hz hi hj
theorem PrL.rows {α : Type} {st st' : St} {ps : List (Option Addr)} {z : Nat} {f : α → List Value} {p : Option Addr} {l : List α} (h : PrL ps st st') (hR : Rows st z f p l) (hd : ∀ q ∈ ps,Dis p q) : Rows st' z f p l := by
 rcases hR with rfl | ⟨b,off,blk,rfl,hm,hb,hc⟩
 ·exact .inl rfl
 ·refine .inr ⟨b,off,blk,rfl,?_,Nat.lt_of_lt_of_le hb h.1,hc⟩
  rw [h.2 b hb fun q hq r hr => hd q hq _ r rfl hr]
  exact hm
def xr (a b : Int) : Int := bits .xor .i64 a b
theorem wrap_nat (n : Nat) (h : n < 9223372036854775808) : IntKind.wrap .i64 (n : Int) = (n : Int) := wrap_i64 (by omega) (by omega)
theorem xr_nat {a b : Nat} (ha : a < 4294967296) (hb : b < 4294967296) : xr a b = ((a ^^^ b : Nat) : Int) ∧ a ^^^ b < 4294967296 := by
 have h : a ^^^ b < 4294967296 := Nat.xor_lt_two_pow (n := 32) ha hb
 refine ⟨?_,h⟩
 have h1 : (BitVec.ofInt 64 (a : Int) ^^^ BitVec.ofInt 64 (b : Int)).toNat = a ^^^ b := by
  rw [BitVec.toNat_xor,BitVec.ofInt_natCast,BitVec.ofInt_natCast,BitVec.toNat_ofNat,BitVec.toNat_ofNat,Nat.mod_eq_of_lt (by omega),Nat.mod_eq_of_lt (by omega)]
 show IntKind.wrap .i64 (((BitVec.ofInt 64 (a : Int) ^^^ BitVec.ofInt 64 (b : Int)).toNat : Nat) : Int) = _
 rw [h1]
 exact wrap_nat _ (by omega)
def rng32 (x : Int) : Prop := 0 ≤ x ∧ x < 4294967296
theorem xr_rng {a b : Int} (ha : rng32 a) (hb : rng32 b) : rng32 (xr a b) := by
 obtain ⟨m,rfl⟩ := Int.eq_ofNat_of_zero_le ha.1
 obtain ⟨n,rfl⟩ := Int.eq_ofNat_of_zero_le hb.1
 have h := xr_nat (a := m) (b := n) (by have := ha.2; omega) (by have := hb.2; omega)
 rw [h.1]
 exact ⟨by omega,by omega⟩
def crc1 (x : Int) : Int := if x % 2 = 1 then xr (x / 2) 3988292384 else x / 2
def crcN : Nat → Int → Int
 | 0,x => x
 | n + 1,x => crc1 (crcN n x)
def crcS (x u : Int) : Int := crcN 8 (xr x u)
def crcP (l : List Int) (i : Nat) : Int := (l.take i).foldl crcS 4294967295
def crc (l : List Int) : Int := xr (crcP l l.length) 4294967295
def bytesOk (l : List Int) : Prop := ∀ x ∈ l,0 ≤ x ∧ x < 256
theorem crc1_rng {x : Int} (h : rng32 x) : rng32 (crc1 x) := by
 have hd : rng32 (x / 2) := ⟨by have := h.1; omega,by have := h.1; have := h.2; omega⟩
 unfold crc1
 split
 ·exact xr_rng hd ⟨by decide,by decide⟩
 ·exact hd
theorem crcN_rng {x : Int} (h : rng32 x) : ∀ n,rng32 (crcN n x)
 | 0 => h
 | n + 1 => crc1_rng (crcN_rng h n)
theorem crcP_succ {l : List Int} {i : Nat} {u : Int} (h : l[i]? = some u) : crcP l (i + 1) = crcS (crcP l i) u := by
 unfold crcP
 rw [List.take_add_one,h,List.foldl_append]
 rfl
theorem bytesOk.at {l : List Int} (hl : bytesOk l) {i : Nat} {u : Int} (h : l[i]? = some u) : rng32 u := by
 have := hl u (List.mem_of_getElem? h)
 exact ⟨this.1,by omega⟩
theorem crcP_rng {l : List Int} (hl : bytesOk l) : ∀ i,rng32 (crcP l i)
 | 0 => ⟨by show (0 : Int) ≤ 4294967295; decide,by show (4294967295 : Int) < 4294967296; decide⟩
 | i + 1 => by
  cases h : l[i]? with
  | none =>
   have : crcP l (i + 1) = crcP l i := by
    unfold crcP
    rw [List.take_add_one,h]
    simp
   rw [this]; exact crcP_rng hl i
  | some u =>
   rw [crcP_succ h]
   exact crcN_rng (xr_rng (crcP_rng hl i) (hl.at h)) 8
theorem crc_rng {l : List Int} (hl : bytesOk l) : rng32 (crc l) := xr_rng (crcP_rng hl _) ⟨by decide,by decide⟩
section
variable {P : Program} {ls : List Tmp} {call : ACallT} {o : Oper} {e : Operand → Value} {lo : Lo} {st : St}
theorem op_xr {t ty : TypeId} {x y : Operand} {a b : Int} (ho : o.op = .binOp .xor t x y ty) (hx : e x = vI a) (hy : e y = vI b) : aoper P ls call o e lo st = some (vI (xr a b),lo,st) := by
 obtain ⟨d,op,tt,pos,after,gd⟩ := o
 simp only at ho
 subst ho
 simp [aoper,rop,hx,hy,abin,aint,xr]
theorem op_rm {t ty : TypeId} {x y : Operand} {a b r : Int} (ho : o.op = .binOp .rem t x y ty) (hx : e x = vI a) (hy : e y = vI b) (hb : b ≠ 0) (hr : a.tmod b = r) : aoper P ls call o e lo st = some (vI r,lo,st) := by
 subst hr
 exact op_rem ho hx hy hb
theorem op_qo {t ty : TypeId} {x y : Operand} {a b r : Int} (ho : o.op = .binOp .quo t x y ty) (hx : e x = vI a) (hy : e y = vI b) (hb : b ≠ 0) (hr : a.tdiv b = r) (h1 : -9223372036854775808 ≤ r) (h2 : r < 9223372036854775808) : aoper P ls call o e lo st = some (vI r,lo,st) := by
 subst hr
 rw [op_quo ho hx hy hb,wrap_i64 h1 h2]
theorem op_ofB {src dst : TypeId} {x : Operand} {b : Int} (ho : o.op = .convert src dst x) (hx : e x = .int .u8 b) (hd : telem P dst = none) (h1 : tint P src = some .u8) (h2 : tint P dst = some .i64) (hb : rng32 b) : aoper P ls call o e lo st = some (vI b,lo,st) := by
 obtain ⟨d,op,tt,pos,after,gd⟩ := o
 simp only at ho
 subst ho
 simp only [aoper,hd,rop,hx,aconv,h1,h2,Option.bind_some,Option.map_some]
 rw [wrap_i64 (by have := hb.1; omega) (by have := hb.2; omega)]
theorem op_toB {src dst : TypeId} {x : Operand} {b r : Int} (ho : o.op = .convert src dst x) (hx : e x = vI b) (hd : telem P dst = none) (h1 : tint P src = some .i64) (h2 : tint P dst = some .u8) (hb : b = r) (h3 : 0 ≤ r) (h4 : r < 256) : aoper P ls call o e lo st = some (.int .u8 r,lo,st) := by
 obtain ⟨d,op,tt,pos,after,gd⟩ := o
 simp only at ho
 subst ho hb
 simp only [aoper,hd,rop,hx,aconv,h1,h2,Option.bind_some,Option.map_some]
 rw [wrap_u8 h3 h4]
end
theorem tm_emod {a : Int} (b : Int) (h : 0 ≤ a) : a.tmod b = a % b := Int.tmod_eq_emod_of_nonneg h
theorem td_ediv {a : Int} (b : Int) (h : 0 ≤ a) : a.tdiv b = a / b := Int.tdiv_eq_ediv_of_nonneg h
theorem ac_spec_Crc (p : Option Addr) (l : List Int) (st : St) (hR : Rows st 1 fB p l) (hl : bytesOk l) (hs : l.length ≤ 1099511627776) : C 172 [vS p l.length] st (fun v s => v = vI (crc l) ∧ s = st) := by
 refine AC.enterX (i := ⟨[],[],[0,2,3,4,5,6,10,21,29],[]⟩) [] Try.func172 rfl rfl (by kernel_rfl) (by kernel_rfl) Try.ntmps172 (Lb rfl) rfl ?_
 refine cxs ?_
 refine cxs ?_
 refine Cu lo0 st [(0,vS p l.length),(2,vI 0),(3,vI 4294967295),(4,vI 0)] fun _ => ?_
 refine AW.loop0 (fun x : Nat × Int => [(0,vS p l.length),(2,vI (0)),(3,vI x.2),(4,vI (x.1 : Int))]) (fun m (x : Nat × Int) st' => m = l.length - x.1 ∧ x.1 ≤ l.length ∧ x.2 = crcP l x.1 ∧ st = st') (0,4294967295) _ ⟨rfl,rfl,rfl,rfl,trivial⟩ rfl ⟨rfl,Nat.zero_le _,rfl,rfl⟩ ?_
 rintro m ⟨i,c⟩ ρ0 st' ⟨rfl,hi,hc,rfl⟩
 simp only at hi hc
 have hP : rng32 c := hc ▸ crcP_rng hl i
 iterate 2 refine ⟨_,rfl,?_⟩
 rintro (_|_) h10
 ·replace h10 : ¬ ((i : Int) < (l.length : Int)) := of_decide_eq_false h10
  refine Cu lo0 st [(0,vS p l.length),(2,vI 0),(3,vI c),(4,vI (i : Int)),(10,vB false)] fun _ => ?_
  refine cxs ?_
  refine ⟨_,op_xr rfl rfl rfl,?_⟩
  exact cxs (Rt ⟨congrArg vI (by rw [hc,crc,show l.length = i by omega]),rfl⟩)
 ·replace h10 : (i : Int) < (l.length : Int) := of_decide_eq_true h10
  refine Cu lo0 st [(0,vS p l.length),(2,vI 0),(3,vI c),(4,vI (i : Int)),(10,vB true)] fun _ => ?_
  refine cxs ?_
  refine op_at i hR (by omega) rfl rfl rfl rfl rfl rfl rfl ?_
  intro x16 b16 d16 k16 hy16 hb16 hm16 hc16 ho16
  refine ⟨_,op_ldc (i := 0) rfl rfl rfl rfl hm16 hc16 rfl rfl,?_⟩
  refine ⟨_,op_ofB rfl rfl rfl rfl rfl (hl.at hy16),?_⟩
  refine ⟨_,op_xr rfl rfl rfl,?_⟩
  refine cxs ?_
  refine Cu lo0 st [(0,vS p l.length),(2,vI 0),(3,vI (xr c x16)),(4,vI (i : Int)),(5,vI 0),(10,vB true)] fun _ => ?_
  refine AW.loop0 (fun y : Nat × Int => [(0,vS p l.length),(2,vI (0)),(3,vI y.2),(4,vI (i : Int)),(5,vI (y.1 : Int)),(10,vB true)]) (fun m (y : Nat × Int) st' => m = 8 - y.1 ∧ y.1 ≤ 8 ∧ y.2 = crcN y.1 (xr c x16) ∧ st = st') (0,xr c x16) _ ⟨rfl,rfl,rfl,rfl,rfl,rfl,trivial⟩ rfl ⟨rfl,Nat.zero_le _,rfl,rfl⟩ ?_
  rintro m ⟨k,d⟩ ρ0 st' ⟨rfl,hk,hd,rfl⟩
  simp only at hk hd
  have hX : rng32 d := hd ▸ crcN_rng (xr_rng hP (hl.at hy16)) k
  have hX0 := hX.1
  have hX1 := hX.2
  refine ⟨_,rfl,?_⟩
  rintro (_|_) h21
  ·replace h21 : ¬ ((k : Int) < (8)) := of_decide_eq_false h21
   refine Cu lo0 st [(0,vS p l.length),(2,vI 0),(3,vI d),(4,vI (i : Int)),(5,vI (k : Int)),(10,vB true),(21,vB false)] fun _ => ?_
   refine cxs ?_
   have ew12 : IntKind.wrap .i64 ((i : Int) + (1)) = ((i + 1 : Nat) : Int) := (wrap_i64 (by omega) (by omega)).trans (by omega)
   refine ⟨_,rfl,?_⟩
   refine ⟨(i + 1,d),l.length - (i + 1),by omega,⟨rfl,rfl,rfl,congrArg (Value.int .i64) ew12,trivial⟩,rfl,rfl,by omega,?_,rfl⟩
   rw [crcP_succ hy16,← hc,hd,show k = 8 by omega]
   rfl
  ·replace h21 : (k : Int) < (8) := of_decide_eq_true h21
   refine Cu lo0 st [(0,vS p l.length),(2,vI 0),(3,vI d),(4,vI (i : Int)),(5,vI (k : Int)),(10,vB true),(21,vB true)] fun _ => ?_
   refine cxs ?_
   refine ⟨_,op_rm (r := d % 2) rfl rfl rfl (by decide) (tm_emod 2 hX0),?_⟩
   refine ⟨_,rfl,?_⟩
   rintro (_|_) h26
   ·replace h26 : ¬ ((d % 2) = (1)) := beq_eq_false_iff_ne.1 h26
    refine Cu lo0 st [(0,vS p l.length),(2,vI 0),(3,vI d),(4,vI (i : Int)),(5,vI (k : Int)),(6,vB false),(10,vB true),(21,vB true)] fun _ => ?_
    refine ⟨_,op_qo (r := d / 2) rfl rfl rfl (by decide) (td_ediv 2 hX0) (by omega) (by omega),?_⟩
    refine cxs ?_
    refine Cu lo0 st [(0,vS p l.length),(2,vI 0),(3,vI (d / 2)),(4,vI (i : Int)),(5,vI (k : Int)),(6,vB false),(10,vB true),(21,vB true),(29,vB false)] fun _ => ?_
    refine cxs ?_
    have ew23 : IntKind.wrap .i64 ((k : Int) + (1)) = ((k + 1 : Nat) : Int) := (wrap_i64 (by omega) (by omega)).trans (by omega)
    refine ⟨_,rfl,?_⟩
    refine ⟨(k + 1,d / 2),8 - (k + 1),by omega,⟨rfl,rfl,rfl,rfl,congrArg (Value.int .i64) ew23,rfl,trivial⟩,rfl,rfl,by omega,?_,rfl⟩
    show d / 2 = crc1 _
    rw [← hd,crc1,if_neg h26]
   ·replace h26 : (d % 2) = (1) := beq_iff_eq.1 h26
    refine Cu lo0 st [(0,vS p l.length),(2,vI 0),(3,vI d),(4,vI (i : Int)),(5,vI (k : Int)),(6,vB true),(10,vB true),(21,vB true)] fun _ => ?_
    refine ⟨_,op_qo (r := d / 2) rfl rfl rfl (by decide) (td_ediv 2 hX0) (by omega) (by omega),?_⟩
    refine cxs ?_
    refine Cu lo0 st [(0,vS p l.length),(2,vI 0),(3,vI (d / 2)),(4,vI (i : Int)),(5,vI (k : Int)),(6,vB true),(10,vB true),(21,vB true),(29,vB true)] fun _ => ?_
    refine ⟨_,op_xr rfl rfl rfl,?_⟩
    refine Cu lo0 st [(0,vS p l.length),(2,vI 0),(3,vI (xr (d / 2) 3988292384)),(4,vI (i : Int)),(5,vI (k : Int)),(6,vB true),(10,vB true),(21,vB true),(29,vB true)] fun _ => ?_
    have ew23 : IntKind.wrap .i64 ((k : Int) + (1)) = ((k + 1 : Nat) : Int) := (wrap_i64 (by omega) (by omega)).trans (by omega)
    refine ⟨_,rfl,?_⟩
    refine ⟨(k + 1,xr (d / 2) 3988292384),8 - (k + 1),by omega,⟨rfl,rfl,rfl,rfl,congrArg (Value.int .i64) ew23,rfl,trivial⟩,rfl,rfl,by omega,?_,rfl⟩
    show xr (d / 2) 3988292384 = crc1 _
    rw [← hd,crc1,if_pos h26]
theorem ac_impl_Crc (p : Option Addr) (l : List Int) (st : St) (hR : Rows st 1 fB p l) (hl : bytesOk l) (hs : l.length ≤ 1099511627776) : C 168 [vS p l.length] st (fun v s => v = vI (crc l) ∧ s = st) := by
 refine AC.enterX (i := ⟨[],[],[0,2,3,5,6,7,8,9,10,17,18,24],[]⟩) [] Try.func168 rfl rfl (by kernel_rfl) (by kernel_rfl) Try.ntmps168 (Lb rfl) rfl ?_
 refine cxs ?_
 refine Cu lo0 st [(0,vS p l.length),(2,vI 0),(3,vI 4294967295)] fun _ => ?_
 refine ⟨_,rfl,?_⟩
 refine Cu lo0 st [(2,vI 0),(3,vI 4294967295),(7,vS p l.length),(8,vI (l.length : Int)),(9,vI 0)] fun _ => ?_
 refine AW.loop0 (fun x : Nat × Int => [(2,vI (0)),(3,vI x.2),(7,vS p l.length),(8,vI (l.length : Int)),(9,vI (x.1 : Int))]) (fun m (x : Nat × Int) st' => m = l.length - x.1 ∧ x.1 ≤ l.length ∧ x.2 = crcP l x.1 ∧ st = st') (0,4294967295) _ ⟨rfl,rfl,rfl,rfl,rfl,trivial⟩ rfl ⟨rfl,Nat.zero_le _,rfl,rfl⟩ ?_
 rintro m ⟨i,c⟩ ρ0 st' ⟨rfl,hi,hc,rfl⟩
 simp only at hi hc
 have hP : rng32 c := hc ▸ crcP_rng hl i
 refine ⟨_,rfl,?_⟩
 rintro (_|_) h10
 ·replace h10 : ¬ ((i : Int) < (l.length : Int)) := of_decide_eq_false h10
  refine Cu lo0 st [(2,vI 0),(3,vI c),(7,vS p l.length),(8,vI (l.length : Int)),(9,vI (i : Int)),(10,vB false)] fun _ => ?_
  refine cxs ?_
  refine ⟨_,op_xr rfl rfl rfl,?_⟩
  exact cxs (Rt ⟨congrArg vI (by rw [hc,crc,show l.length = i by omega]),rfl⟩)
 ·replace h10 : (i : Int) < (l.length : Int) := of_decide_eq_true h10
  refine Cu lo0 st [(2,vI 0),(3,vI c),(7,vS p l.length),(8,vI (l.length : Int)),(9,vI (i : Int)),(10,vB true)] fun _ => ?_
  refine cxs ?_
  refine op_at i hR (by omega) rfl rfl rfl rfl rfl rfl rfl ?_
  intro x11 b11 d11 k11 hy11 hb11 hm11 hc11 ho11
  refine ⟨_,op_ldc (i := 0) rfl rfl rfl rfl hm11 hc11 rfl rfl,?_⟩
  refine Cu lo0 st [(2,vI 0),(3,vI c),(5,.int .u8 x11),(7,vS p l.length),(8,vI (l.length : Int)),(9,vI (i : Int)),(10,vB true)] fun _ => ?_
  refine ⟨_,op_ofB rfl rfl rfl rfl rfl (hl.at hy11),?_⟩
  refine ⟨_,op_xr rfl rfl rfl,?_⟩
  refine cxs ?_
  refine Cu lo0 st [(2,vI 0),(3,vI (xr c x11)),(5,.int .u8 x11),(7,vS p l.length),(8,vI (l.length : Int)),(9,vI (i : Int)),(10,vB true),(17,vI 0)] fun _ => ?_
  refine AW.loop0 (fun y : Nat × Int => [(2,vI (0)),(3,vI y.2),(5,.int .u8 x11),(7,vS p l.length),(8,vI (l.length : Int)),(9,vI (i : Int)),(10,vB true),(17,vI (y.1 : Int))]) (fun m (y : Nat × Int) st' => m = 8 - y.1 ∧ y.1 ≤ 8 ∧ y.2 = crcN y.1 (xr c x11) ∧ st = st') (0,xr c x11) _ ⟨rfl,rfl,rfl,rfl,rfl,rfl,rfl,rfl,trivial⟩ rfl ⟨rfl,Nat.zero_le _,rfl,rfl⟩ ?_
  rintro m ⟨k,d⟩ ρ0 st' ⟨rfl,hk,hd,rfl⟩
  simp only at hk hd
  have hX : rng32 d := hd ▸ crcN_rng (xr_rng hP (hl.at hy11)) k
  have hX0 := hX.1
  have hX1 := hX.2
  refine ⟨_,rfl,?_⟩
  rintro (_|_) h18
  ·replace h18 : ¬ ((k : Int) < (8)) := of_decide_eq_false h18
   refine Cu lo0 st [(2,vI 0),(3,vI d),(5,.int .u8 x11),(7,vS p l.length),(8,vI (l.length : Int)),(9,vI (i : Int)),(10,vB true),(17,vI (k : Int)),(18,vB false)] fun _ => ?_
   refine cxs ?_
   have ew28 : IntKind.wrap .i64 ((i : Int) + (1)) = ((i + 1 : Nat) : Int) := (wrap_i64 (by omega) (by omega)).trans (by omega)
   refine ⟨_,rfl,?_⟩
   refine ⟨(i + 1,d),l.length - (i + 1),by omega,⟨rfl,rfl,rfl,rfl,congrArg (Value.int .i64) ew28,trivial⟩,rfl,rfl,by omega,?_,rfl⟩
   rw [crcP_succ hy11,← hc,hd,show k = 8 by omega]
   rfl
  ·replace h18 : (k : Int) < (8) := of_decide_eq_true h18
   refine Cu lo0 st [(2,vI 0),(3,vI d),(5,.int .u8 x11),(7,vS p l.length),(8,vI (l.length : Int)),(9,vI (i : Int)),(10,vB true),(17,vI (k : Int)),(18,vB true)] fun _ => ?_
   refine cxs ?_
   refine ⟨_,op_rm (r := d % 2) rfl rfl rfl (by decide) (tm_emod 2 hX0),?_⟩
   refine ⟨_,rfl,?_⟩
   rintro (_|_) h21
   ·replace h21 : ¬ ((d % 2) = (1)) := beq_eq_false_iff_ne.1 h21
    refine Cu lo0 st [(2,vI 0),(3,vI d),(5,.int .u8 x11),(6,vB false),(7,vS p l.length),(8,vI (l.length : Int)),(9,vI (i : Int)),(10,vB true),(17,vI (k : Int)),(18,vB true)] fun _ => ?_
    refine ⟨_,op_qo (r := d / 2) rfl rfl rfl (by decide) (td_ediv 2 hX0) (by omega) (by omega),?_⟩
    refine cxs ?_
    refine Cu lo0 st [(2,vI 0),(3,vI (d / 2)),(5,.int .u8 x11),(6,vB false),(7,vS p l.length),(8,vI (l.length : Int)),(9,vI (i : Int)),(10,vB true),(17,vI (k : Int)),(18,vB true),(24,vB false)] fun _ => ?_
    refine cxs ?_
    have ew27 : IntKind.wrap .i64 ((k : Int) + (1)) = ((k + 1 : Nat) : Int) := (wrap_i64 (by omega) (by omega)).trans (by omega)
    refine ⟨_,rfl,?_⟩
    refine ⟨(k + 1,d / 2),8 - (k + 1),by omega,⟨rfl,rfl,rfl,rfl,rfl,rfl,rfl,congrArg (Value.int .i64) ew27,trivial⟩,rfl,rfl,by omega,?_,rfl⟩
    show d / 2 = crc1 _
    rw [← hd,crc1,if_neg h21]
   ·replace h21 : (d % 2) = (1) := beq_iff_eq.1 h21
    refine Cu lo0 st [(2,vI 0),(3,vI d),(5,.int .u8 x11),(6,vB true),(7,vS p l.length),(8,vI (l.length : Int)),(9,vI (i : Int)),(10,vB true),(17,vI (k : Int)),(18,vB true)] fun _ => ?_
    refine ⟨_,op_qo (r := d / 2) rfl rfl rfl (by decide) (td_ediv 2 hX0) (by omega) (by omega),?_⟩
    refine cxs ?_
    refine Cu lo0 st [(2,vI 0),(3,vI (d / 2)),(5,.int .u8 x11),(6,vB true),(7,vS p l.length),(8,vI (l.length : Int)),(9,vI (i : Int)),(10,vB true),(17,vI (k : Int)),(18,vB true),(24,vB true)] fun _ => ?_
    refine ⟨_,op_xr rfl rfl rfl,?_⟩
    refine Cu lo0 st [(2,vI 0),(3,vI (xr (d / 2) 3988292384)),(5,.int .u8 x11),(6,vB true),(7,vS p l.length),(8,vI (l.length : Int)),(9,vI (i : Int)),(10,vB true),(17,vI (k : Int)),(18,vB true),(24,vB true)] fun _ => ?_
    have ew27 : IntKind.wrap .i64 ((k : Int) + (1)) = ((k + 1 : Nat) : Int) := (wrap_i64 (by omega) (by omega)).trans (by omega)
    refine ⟨_,rfl,?_⟩
    refine ⟨(k + 1,xr (d / 2) 3988292384),8 - (k + 1),by omega,⟨rfl,rfl,rfl,rfl,rfl,rfl,rfl,congrArg (Value.int .i64) ew27,trivial⟩,rfl,rfl,by omega,?_,rfl⟩
    show xr (d / 2) 3988292384 = crc1 _
    rw [← hd,crc1,if_pos h21]
def vlq (n : Nat) : List Int := if h : n < 128 then [(n : Int)] else ((n % 128 + 128 : Nat) : Int) :: vlq (n / 128)
termination_by n
decreasing_by omega
def putN (n : Int) : List Int := if 0 ≤ n ∧ n ≤ 2147483647 then vlq n.toNat else []
theorem vlq_lt {n : Nat} (h : n < 128) : vlq n = [(n : Int)] := by rw [vlq,dif_pos h]
theorem vlq_ge {n : Nat} (h : ¬ n < 128) : vlq n = ((n % 128 + 128 : Nat) : Int) :: vlq (n / 128) := by rw [vlq,dif_neg h]
theorem vlq_len : ∀ (f n : Nat),n < 128 ^ (f + 1) → (vlq n).length ≤ f + 1
 | 0,n,h => by rw [vlq_lt (by omega)]; exact Nat.le_refl _
 | f + 1,n,h => by
  by_cases h1 : n < 128
  ·rw [vlq_lt h1]; simp
  ·rw [vlq_ge h1,List.length_cons]
   have := vlq_len f (n / 128) (by rw [Nat.pow_succ] at h; omega)
   omega
theorem vlq_pos (n : Nat) : 0 < (vlq n).length := by
 by_cases h1 : n < 128
 ·rw [vlq_lt h1]; exact Nat.one_pos
 ·rw [vlq_ge h1,List.length_cons]; omega
theorem vlq_ok : ∀ (f n : Nat),n < 128 ^ (f + 1) → bytesOk (vlq n)
 | 0,n,h => by
  rw [vlq_lt (by omega)]
  intro x hx
  rw [List.mem_singleton.1 hx]
  omega
 | f + 1,n,h => by
  by_cases h1 : n < 128
  ·rw [vlq_lt h1]
   intro x hx
   rw [List.mem_singleton.1 hx]
   omega
  ·rw [vlq_ge h1]
   intro x hx
   rcases List.mem_cons.1 hx with rfl | hx
   ·omega
   ·exact vlq_ok f (n / 128) (by rw [Nat.pow_succ] at h; omega) x hx
theorem putN_len (n : Int) : (putN n).length ≤ 5 := by
 unfold putN
 split
 ·exact vlq_len 4 _ (by omega)
 ·exact Nat.zero_le _
theorem putN_ok (n : Int) : bytesOk (putN n) := by
 unfold putN
 split
 ·exact vlq_ok 4 _ (by omega)
 ·intro x hx; cases hx
theorem bytesOk.app {a b : List Int} (ha : bytesOk a) (hb : bytesOk b) : bytesOk (a ++ b) := fun x hx => by
 rcases List.mem_append.1 hx with h | h
 ·exact ha x h
 ·exact hb x h
theorem ac_spec_PutNum (n : Int) (st : St) : C 160 [vI n] st (fun v s => ∃ q,v = vS q (putN n).length ∧ OwnR s 1 fB q (putN n) ∧ New st.next q ∧ Pres st s) := by
 refine AC.enterX (i := ⟨[],[],[0,2,3,7,10],[]⟩) [] Try.func160 rfl rfl (by kernel_rfl) (by kernel_rfl) Try.ntmps160 (Lb rfl) rfl ?_
 refine Cu lo0 st [(0,vI n),(2,Sn)] fun _ => ?_
 refine op_nilK (z := 1) (f := fB) rfl rfl rfl rfl (by decide) rfl ?_
 intro q4 s4 hO4 hP4 hN4
 refine Cu lo0 s4 [(0,vI n),(2,Sn),(3,vS q4 0)] fun _ => ?_
 refine ⟨_,rfl,(ac_spec_l1In n 0 2147483647 s4).mono ?_⟩
 rintro _ s4 ⟨x6,rfl,h6,rfl⟩
 rcases x6 with _|_
 ·replace h6 := of_decide_eq_false h6.symm
  refine ⟨_,rfl,?_⟩
  refine Cu lo0 s4 [(0,vI n),(2,Sn),(3,vS q4 0),(7,vB true)] fun _ => ?_
  refine cxs ?_
  refine ⟨.inl rfl,_,rfl,?_⟩
  rw [show putN n = [] from if_neg h6]
  exact ⟨q4,rfl,hO4,hN4,hP4⟩
 ·replace h6 := of_decide_eq_true h6.symm
  refine ⟨_,rfl,?_⟩
  refine Cu lo0 s4 [(0,vI n),(2,Sn),(3,vS q4 0),(7,vB false)] fun _ => ?_
  obtain ⟨n,rfl⟩ := Int.eq_ofNat_of_zero_le h6.1
  have hpn : vlq n = putN n := (if_pos h6).symm
  have hpl := putN_len n
  refine cxs ?_
  refine AW.loop0 (fun x : Nat × Option Addr × List Int => [(0,vI (x.1 : Int)),(2,.slice none 0 0),(3,vS x.2.1 x.2.2.length)]) (fun m (x : Nat × Option Addr × List Int) st' => m = x.1 ∧ x.1 ≤ n ∧ x.2.2 ++ vlq x.1 = putN n ∧ OwnR st' 1 fB x.2.1 x.2.2 ∧ New st.next x.2.1 ∧ Pres st st') (n,q4,[]) _ ⟨rfl,rfl,rfl,trivial⟩ rfl ⟨rfl,Nat.le_refl _,hpn,hO4,hN4,hP4⟩ ?_
  rintro m ⟨k,q,l⟩ ρ0 st' ⟨hm,hk,hv,hO,hN,hP⟩
  simp only at hm hk hv hO hN
  have hvl := congrArg List.length hv
  rw [List.length_append] at hvl
  have hv1 := vlq_pos k
  refine ⟨_,rfl,?_⟩
  rintro (_|_) h10
  ·replace h10 : ¬ ((k : Int) > (127)) := of_decide_eq_false h10
   refine Cu lo0 st' [(0,vI (k : Int)),(2,Sn),(3,vS q l.length),(10,vB false)] fun _ => ?_
   refine cxs ?_
   refine ⟨_,op_toB (r := (k : Int)) rfl rfl rfl rfl rfl rfl (by omega) (by omega),?_⟩
   refine op_one (z := 1) (a := ((k : Int) : Int)) (f := fB) rfl rfl rfl rfl rfl (by decide) rfl (Lb rfl) rfl rfl rfl ?_
   refine op_snoc (z := 1) (st := st') (f := fB) (b := 1) (l := l) (x := (k : Int)) rfl rfl rfl rfl rfl rfl rfl (by decide) fB_len rfl rfl rfl (by omega) (by unfold maxLen; omega) hO ?_
   intro q24 s24 hO24 hP24 hN24
   refine cxs ?_
   refine ⟨.inl rfl,_,rfl,q24,?_⟩
   rw [← hv,vlq_lt (n := k) (by omega)]
   exact ⟨rfl,hO24,hN24.le hP.1,hP24.pres hP hN⟩
  ·replace h10 : (k : Int) > (127) := of_decide_eq_true h10
   refine Cu lo0 st' [(0,vI (k : Int)),(2,Sn),(3,vS q l.length),(10,vB true)] fun _ => ?_
   refine cxs ?_
   refine ⟨_,op_rm (r := ((k % 128 : Nat) : Int)) rfl rfl rfl (by decide) ((tm_emod 128 (by omega)).trans (by omega)),?_⟩
   have ew14 : IntKind.wrap .i64 (((k % 128 : Nat) : Int) + (128)) = ((k % 128 + 128 : Nat) : Int) := (wrap_i64 (by omega) (by omega)).trans (by omega)
   refine ⟨_,rfl,?_⟩
   refine ⟨_,op_toB (r := ((k % 128 + 128 : Nat) : Int)) rfl rfl rfl rfl rfl (ew14.trans (by omega)) (by omega) (by omega),?_⟩
   refine op_one (z := 1) (a := (((k % 128 + 128 : Nat) : Int) : Int)) (f := fB) rfl rfl rfl rfl rfl (by decide) rfl (Lb rfl) rfl rfl rfl ?_
   refine op_snoc (z := 1) (st := st') (f := fB) (b := 1) (l := l) (x := ((k % 128 + 128 : Nat) : Int)) rfl rfl rfl rfl rfl rfl rfl (by decide) fB_len rfl rfl rfl (by omega) (by unfold maxLen; omega) hO ?_
   intro q17 s17 hO17 hP17 hN17
   refine Cu lo0 s17 [(0,vI (k : Int)),(2,Sn),(3,vS q17 (l ++ [((k % 128 + 128 : Nat) : Int)]).length),(10,vB true)] fun _ => ?_
   refine ⟨_,op_qo (r := ((k / 128 : Nat) : Int)) rfl rfl rfl (by decide) ((td_ediv 128 (by omega)).trans (by omega)) (by omega) (by omega),?_⟩
   exact ⟨(k / 128,q17,l ++ [((k % 128 + 128 : Nat) : Int)]),k / 128,by omega,⟨rfl,rfl,rfl,trivial⟩,rfl,rfl,by simp only; omega,by rw [← hv,vlq_ge (n := k) (by omega),List.append_assoc]; rfl,hO17,hN17.le hP.1,hP17.pres hP hN⟩
theorem ac_impl_PutNum (n : Int) (st : St) : C 108 [vI n] st (fun v s => ∃ q,v = vS q (putN n).length ∧ OwnR s 1 fB q (putN n) ∧ New st.next q ∧ Pres st s) := by
 refine AC.enterX (i := ⟨[],[],[0,2,3,6,9],[]⟩) [] Try.func108 rfl rfl (by kernel_rfl) (by kernel_rfl) Try.ntmps108 (Lb rfl) rfl ?_
 refine Cu lo0 st [(0,vI n),(2,Sn)] fun _ => ?_
 refine ⟨_,rfl,(ac_impl_within n 0 2147483647 st).mono ?_⟩
 rintro _ st ⟨x5,rfl,h5,rfl⟩
 rcases x5 with _|_
 ·replace h5 := of_decide_eq_false h5.symm
  refine ⟨_,rfl,?_⟩
  refine Cu lo0 st [(0,vI n),(2,Sn),(6,vB true)] fun _ => ?_
  refine cxs ?_
  refine ⟨.inl rfl,_,rfl,?_⟩
  rw [show putN n = [] from if_neg h5]
  exact ⟨none,rfl,OwnR.nil,New.none,Pres.refl _⟩
 ·replace h5 := of_decide_eq_true h5.symm
  refine ⟨_,rfl,?_⟩
  refine Cu lo0 st [(0,vI n),(2,Sn),(6,vB false)] fun _ => ?_
  obtain ⟨n,rfl⟩ := Int.eq_ofNat_of_zero_le h5.1
  have hpn : vlq n = putN n := (if_pos h5).symm
  have hpl := putN_len n
  refine cxs ?_
  refine op_nilK (z := 1) (f := fB) rfl rfl rfl rfl (by decide) rfl ?_
  intro q7 s7 hO7 hP7 hN7
  refine Cu lo0 s7 [(0,vI n),(2,Sn),(3,vS q7 0)] fun _ => ?_
  refine AW.loop0 (fun x : Nat × Option Addr × List Int => [(0,vI (x.1 : Int)),(2,.slice none 0 0),(3,vS x.2.1 x.2.2.length)]) (fun m (x : Nat × Option Addr × List Int) st' => m = x.1 ∧ x.1 ≤ n ∧ x.2.2 ++ vlq x.1 = putN n ∧ OwnR st' 1 fB x.2.1 x.2.2 ∧ New st.next x.2.1 ∧ Pres st st') (n,q7,[]) _ ⟨rfl,rfl,rfl,trivial⟩ rfl ⟨rfl,Nat.le_refl _,hpn,hO7,hN7,hP7⟩ ?_
  rintro m ⟨k,q,l⟩ ρ0 st' ⟨hm,hk,hv,hO,hN,hP⟩
  simp only at hm hk hv hO hN
  have hvl := congrArg List.length hv
  rw [List.length_append] at hvl
  have hv1 := vlq_pos k
  refine ⟨_,rfl,?_⟩
  rintro (_|_) h9
  ·replace h9 : ¬ ((k : Int) ≥ (128)) := of_decide_eq_false h9
   refine Cu lo0 st' [(0,vI (k : Int)),(2,Sn),(3,vS q l.length),(9,vB false)] fun _ => ?_
   refine cxs ?_
   refine ⟨_,op_toB (r := (k : Int)) rfl rfl rfl rfl rfl rfl (by omega) (by omega),?_⟩
   refine op_one (z := 1) (a := ((k : Int) : Int)) (f := fB) rfl rfl rfl rfl rfl (by decide) rfl (Lb rfl) rfl rfl rfl ?_
   refine op_snoc (z := 1) (st := st') (f := fB) (b := 1) (l := l) (x := (k : Int)) rfl rfl rfl rfl rfl rfl rfl (by decide) fB_len rfl rfl rfl (by omega) (by unfold maxLen; omega) hO ?_
   intro q23 s23 hO23 hP23 hN23
   refine cxs ?_
   refine ⟨.inl rfl,_,rfl,q23,?_⟩
   rw [← hv,vlq_lt (n := k) (by omega)]
   exact ⟨rfl,hO23,hN23.le hP.1,hP23.pres hP hN⟩
  ·replace h9 : (k : Int) ≥ (128) := of_decide_eq_true h9
   refine Cu lo0 st' [(0,vI (k : Int)),(2,Sn),(3,vS q l.length),(9,vB true)] fun _ => ?_
   refine cxs ?_
   refine ⟨_,op_rm (r := ((k % 128 : Nat) : Int)) rfl rfl rfl (by decide) ((tm_emod 128 (by omega)).trans (by omega)),?_⟩
   have ew13 : IntKind.wrap .i64 (((k % 128 : Nat) : Int) + (128)) = ((k % 128 + 128 : Nat) : Int) := (wrap_i64 (by omega) (by omega)).trans (by omega)
   refine ⟨_,rfl,?_⟩
   refine ⟨_,op_toB (r := ((k % 128 + 128 : Nat) : Int)) rfl rfl rfl rfl rfl (ew13.trans (by omega)) (by omega) (by omega),?_⟩
   refine op_one (z := 1) (a := (((k % 128 + 128 : Nat) : Int) : Int)) (f := fB) rfl rfl rfl rfl rfl (by decide) rfl (Lb rfl) rfl rfl rfl ?_
   refine op_snoc (z := 1) (st := st') (f := fB) (b := 1) (l := l) (x := ((k % 128 + 128 : Nat) : Int)) rfl rfl rfl rfl rfl rfl rfl (by decide) fB_len rfl rfl rfl (by omega) (by unfold maxLen; omega) hO ?_
   intro q16 s16 hO16 hP16 hN16
   refine Cu lo0 s16 [(0,vI (k : Int)),(2,Sn),(3,vS q16 (l ++ [((k % 128 + 128 : Nat) : Int)]).length),(9,vB true)] fun _ => ?_
   refine ⟨_,op_qo (r := ((k / 128 : Nat) : Int)) rfl rfl rfl (by decide) ((td_ediv 128 (by omega)).trans (by omega)) (by omega) (by omega),?_⟩
   exact ⟨(k / 128,q16,l ++ [((k % 128 + 128 : Nat) : Int)]),k / 128,by omega,⟨rfl,rfl,rfl,trivial⟩,rfl,rfl,by simp only; omega,by rw [← hv,vlq_ge (n := k) (by omega),List.append_assoc]; rfl,hO16,hN16.le hP.1,hP16.pres hP hN⟩
def fl (t : List RV) : List Int := t.flatMap fun r => r.l
theorem fl_succ {t : List RV} {i : Nat} {r : RV} (h : t[i]? = some r) : fl (t.take (i + 1)) = fl (t.take i) ++ r.l := by
 unfold fl
 rw [List.take_add_one,h,List.flatMap_append]
 simp
theorem fl_le (t : List RV) (i : Nat) : (fl (t.take i)).length ≤ (fl t).length := by
 unfold fl
 conv => rhs; rw [← List.take_append_drop i t]
 rw [List.flatMap_append,List.length_append]
 omega
theorem ac_impl_joined (p : Option Addr) (t : List RV) (st : St) (hR : Rows st 1 cRV p t) (hB : ∀ r ∈ t,Rows st 1 fB r.p r.l) (hs : szOk t.length) (hl : (fl t).length ≤ 1073741824) : C 109 [vS p t.length] st (fun v s => ∃ q,v = vS q (fl t).length ∧ OwnR s 1 fB q (fl t) ∧ New st.next q ∧ Pres st s) := by
 have hs : t.length ≤ 1048576 := hs
 refine AC.enterX (i := ⟨[],[],[0,2,3,5,7,8,9,10],[]⟩) [] Try.func109 rfl rfl (by kernel_rfl) (by kernel_rfl) Try.ntmps109 (Lb rfl) rfl ?_
 refine Cu lo0 st [(0,vS p t.length),(2,Sn)] fun _ => ?_
 refine op_nilK (z := 1) (f := fB) rfl rfl rfl rfl (by decide) rfl ?_
 intro q6 s6 hO6 hP6 hN6
 refine Cu lo0 s6 [(0,vS p t.length),(2,Sn),(3,vS q6 0)] fun _ => ?_
 refine ⟨_,rfl,?_⟩
 refine Cu lo0 s6 [(2,Sn),(3,vS q6 0),(7,vS p t.length),(8,vI (t.length : Int)),(9,vI 0)] fun _ => ?_
 refine AW.loop0 (fun x : Nat × Option Addr × List Int => [(2,.slice none 0 0),(3,vS x.2.1 x.2.2.length),(7,vS p t.length),(8,vI (t.length : Int)),(9,vI (x.1 : Int))]) (fun m (x : Nat × Option Addr × List Int) st' => m = t.length - x.1 ∧ x.1 ≤ t.length ∧ x.2.2 = fl (t.take x.1) ∧ OwnR st' 1 fB x.2.1 x.2.2 ∧ New st.next x.2.1 ∧ Pres st st') (0,q6,[]) _ ⟨rfl,rfl,rfl,rfl,rfl,trivial⟩ rfl ⟨rfl,Nat.zero_le _,rfl,hO6,hN6,hP6⟩ ?_
 rintro m ⟨i,q,l⟩ ρ0 st' ⟨rfl,hi,hv,hO,hN,hP⟩
 simp only at hi hv hO hN
 refine ⟨_,rfl,?_⟩
 rintro (_|_) h10
 ·replace h10 : ¬ ((i : Int) < (t.length : Int)) := of_decide_eq_false h10
  refine Cu lo0 st' [(2,Sn),(3,vS q l.length),(7,vS p t.length),(8,vI (t.length : Int)),(9,vI (i : Int)),(10,vB false)] fun _ => ?_
  refine cxs ?_
  refine cxs ?_
  refine ⟨.inl rfl,_,rfl,q,?_⟩
  rw [show fl t = l by rw [hv,show i = t.length by omega,List.take_length]]
  exact ⟨rfl,hO,hN,hP⟩
 ·replace h10 : (i : Int) < (t.length : Int) := of_decide_eq_true h10
  refine Cu lo0 st' [(2,Sn),(3,vS q l.length),(7,vS p t.length),(8,vI (t.length : Int)),(9,vI (i : Int)),(10,vB true)] fun _ => ?_
  refine cxs ?_
  refine op_at i (hP.rows hR) (by omega) rfl rfl rfl rfl rfl rfl rfl ?_
  intro x11 b11 d11 k11 hy11 hb11 hm11 hc11 ho11
  refine ⟨_,op_ldc (i := 0) rfl rfl rfl rfl hm11 hc11 rfl rfl,?_⟩
  refine Cu lo0 st' [(2,Sn),(3,vS q l.length),(5,vS x11.p x11.l.length),(7,vS p t.length),(8,vI (t.length : Int)),(9,vI (i : Int)),(10,vB true)] fun _ => ?_
  have hsc := fl_succ hy11
  have hle := fl_le t (i + 1)
  have hll := congrArg List.length hsc
  rw [List.length_append,← hv] at hll
  have hrb := hB _ (List.mem_of_getElem? hy11)
  refine op_cat' (z := 1) (st := st') (f := fB) (b := 1) (l := l) (l2 := x11.l) rfl rfl rfl rfl rfl rfl rfl (by decide) fB_len rfl rfl rfl rfl (by first | omega | (simp only [List.length_nil]; omega)) (by unfold maxLen; first | omega | (simp only [List.length_nil]; omega)) hO (hP.rows hrb) ?_
  intro q15 s15 hO15 hPr15 hN15
  refine Cu lo0 s15 [(2,Sn),(3,vS q15 (l ++ x11.l).length),(5,vS x11.p x11.l.length),(7,vS p t.length),(8,vI (t.length : Int)),(9,vI (i : Int)),(10,vB true)] fun _ => ?_
  have ew16 : IntKind.wrap .i64 ((i : Int) + (1)) = ((i + 1 : Nat) : Int) := (wrap_i64 (by omega) (by omega)).trans (by omega)
  refine ⟨_,rfl,?_⟩
  refine ⟨(i + 1,q15,l ++ x11.l),t.length - (i + 1),by omega,⟨rfl,rfl,rfl,rfl,congrArg (Value.int .i64) ew16,trivial⟩,rfl,rfl,by omega,by rw [hsc,← hv],hO15,?_,hPr15.pres hP hN⟩
  rcases hN15 with ⟨h,_⟩ | ⟨_,h⟩
  ·rw [h]; exact hN
  ·exact h.le hP.1
theorem OwnP.joinF {st st' : St} {l m : List Pc} (h : OwnP st l) (hp : Pres st st') (k : OwnP st' m) (hn : NewP st.next m) : OwnP st' (m ++ l) :=
 OwnP.app k (h.pres hp) fun a ha b hb => (Dis.of (h.1 b hb).old (hn a ha)).symm
structure LW where
 cap : Int
 frm : Int
 p : Option Addr
 l : List SV
 C : Pc
 ok : l = [] ∨ ∃ a o,C.p = some ⟨a,0,none⟩ ∧ p = some ⟨a,o,none⟩ ∧ ∀ (j : Nat) x,l[j]? = some x → (C.cs.drop (o + j * 2)).take 2 = cSV x
abbrev LW.v (g : LW) : LV := ⟨g.cap,g.frm,g.p,g.l⟩
abbrev LW.x (g : LW) : Lg := g.v.x
abbrev pcLog (g : LW) : List Pc := g.C :: g.l.flatMap pcS
theorem LW.rows {st : St} {g : LW} (h : g.C.own st) : Rows st 2 cSV g.p g.l := by
 rcases g.ok with h0 | ⟨a,o,h1,h2,h3⟩
 ·exact .inl h0
 ·rcases h with ⟨h4,_⟩ | ⟨b,h4,hb,hm⟩
  ·rw [h1] at h4; cases h4
  ·rw [h1] at h4
   injection h4 with h4
   injection h4 with h4
   subst h4
   exact .inr ⟨a,o,_,h2,hm,hb,h3⟩
theorem OwnP.lw {st : St} {u : LV} (h : OwnP st (pcL u.p u.l)) : ∃ g : LW,g.v = u ∧ OwnP st (pcLog g) ∧ g.C = pcR 2 cSV u.p u.l := by
 refine ⟨⟨u.cap,u.frm,u.p,u.l,pcR 2 cSV u.p u.l,?_⟩,rfl,h,rfl⟩
 rcases h.louter with ⟨_,h2⟩ | ⟨a,h1,_⟩
 ·exact .inl h2
 ·exact .inr ⟨a,0,h1,h1,fun j x hx => by rw [Nat.zero_add]; exact flat_at (l := u.l) len_cSV hx⟩
theorem own_one {α : Type} {st : St} {z : Nat} {f : α → List Value} {p : Option Addr} {l : List α} (h0 : 0 < z) (hz : ∀ x,(f x).length = z) (h : OwnP st [pcR z f p l]) : OwnR st z f p l := pc_own h0 hz (h.1 _ (List.mem_singleton_self _))
abbrev pcIs (g : RV) : List Pc := [pcRV g]
theorem OwnP.rdIs {st : St} {g : RV} (h : OwnP st (pcIs g)) : Rows st 1 fI g.p g.l := (own_one Nat.one_pos fI_len h).rows fI_len
structure FV where
 p : Option Addr
 l : List Flr
abbrev pcFV (g : FV) : List Pc := [pcR 2 cFlr g.p g.l]
theorem OwnP.rdFV {st : St} {g : FV} (h : OwnP st (pcFV g)) : Rows st 2 cFlr g.p g.l := (own_one (by decide) len_cFlr h).rows len_cFlr
structure TT where
 p : Option Addr
 t : List RV
abbrev TT.x (g : TT) : List (List Int) := rls g.t
end Go.Proofs.Yteabadoaeadcgaa.AM
