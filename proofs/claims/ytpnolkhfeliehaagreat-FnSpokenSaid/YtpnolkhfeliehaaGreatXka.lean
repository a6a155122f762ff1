/- Part 1 of the texts on which the law's proof rests. -/
import Derived.Test.YtpnolkhfeliehaaGreatXkA14
import Derived.Test.YtpnolkhfeliehaaGreatProg
import Derived.KernelRfl
import Derived.Lib.Bytealg
import Derived.Laws.Externs
import Derived.Laws.Strings
namespace Go.Proofs.YtpnolkhfeliehaaGreat.AM
open Go Go.Proofs
set_option linter.unusedVariables false
def LTl : List (Nat × FInfo) := [(2,⟨[],[],[],[]⟩),
 (3,⟨[3,4,5,6,7,9,11],[3,4,5,6,7,9,11,66,68,72,73,75,76,81,83],[0,2,3,4,6,7,8,10,11,14,40,47],[]⟩),
 (4,⟨[3,5,7],[3,5,7,35,42,46,47,53,54,61,62],[0,2,3,4,5,6,8,9,11,31,34,40,50,70],[]⟩),
 (5,⟨[3,4,5,7,9],[3,4,5,7,9,50,52,58,68,71],[0,2,3,4,5,6,8,9,10,12,32,34],[]⟩),
 (6,⟨[3,5,6,8,9,11,13,15,16],[3,5,6,8,9,11,13,15,16,64,70,72,98,100,108,114,117,126,128],[0,2,3,4,5,6,7,10,11,12,14,17,19,41,78,80],[]⟩),
 (7,⟨[3,7,8,10,11,13],[3,7,8,10,11,13,51,57,59,77,79,85,90,93,100,102,106],[0,2,3,4,5,6,7,8,9,12,13,14,16,44,46],[]⟩),
 (8,⟨[4,10,11,13,14,15,20,21],[4,10,11,13,14,15,20,21],[0,1,2,3,4,8,9,10,11,12,13,14,15,16,17,18,19,20,21,22,25,30,66,71,93,104,109,112,137,142,147,150],[]⟩),
 (9,⟨[],[],[0,2],[]⟩),
 (10,⟨[2,3,5],[2,3,5],[0,2,3,4,5],[]⟩),
 (11,⟨[],[],[0,2,5],[]⟩),
 (12,⟨[2,3,4,6,7,9],[2,3,4,6,7,9,22,26,28,33,35,38,39,42,43,44,51,53,56,57,65,66,74,75,85,86,88,89,91],[0,1,2,3,4,5,6,7,9,10,20,45,46,47,48,83],[]⟩),
 (13,⟨[2,3,4],[2,3,4],[0,1,2,3,4,5,13],[]⟩),
 (14,⟨[1,4,6],[1,4,6,8,14,19,27,29,40,46,47,50,56,62,67,75,77,88],[0,1,2,3,4,5,6,11,54,59,92],[]⟩),
 (15,⟨[2,3],[2,3,7,10,15,18,24,30,35,42,48,53],[0,1,2,3,4,5,6,22,27,40,45,58],[]⟩),
 (16,⟨[],[],[0,1,4,5,10,14,26],[]⟩),
 (17,⟨[1],[1,4,9,11,18,24,26,32,35,40,42,48,50,56,58,66,72,74,79,85,90,94],[0,1,2,3,31,71,89],[]⟩),
 (18,⟨[2,5],[2,5],[0,2,3,4,5],[]⟩),
 (19,⟨[2,4,6],[2,4,6,13,21],[0,1,2,4,5,6,7,10,20],[]⟩),
 (20,⟨[2,4],[2,4],[0,1,2,4,5,8],[]⟩),
 (21,⟨[1,5],[1,5,6,11,13,20,26,28,35,40,42,47,49,55,57,61,67,69,75,80,85,89,94,100,106,112,118,127,132,137,143,145],[0,1,2,3,4,5,39,73,77,88,122,124,149],[]⟩),
 (22,⟨[2,3],[2,3,5,7,11,13],[0,1,2,3,4],[]⟩),
 (23,⟨[2,3,5],[2,3,5],[0,1,2,3,4,5,6],[]⟩),
 (24,⟨[1,4,6],[1,4,6,7,15,20,29,36,42,50,55,61,62,65,74,81],[0,1,2,3,4,5,6,8,9,10,11,40,43,44,45,46,85],[]⟩),
 (25,⟨[2,3],[2,3,8,10,14,16,21,23,29,31,37,39,45,47,53,55,61,64,69,71,75,77,82,84,89,91,96,98,103,106,112,115,121,127,132,140,146,151,158,164,169],[0,1,2,3,4,5,6,7,68,119,124,138,143,156,161,174],[]⟩),
 (26,⟨[2],[2],[0,2,3],[]⟩),
 (27,⟨[2,4,5,7,8],[2,4,5,7,8,27,30,35,41,44,45,48,53,56,59,62],[0,1,2,4,5,6,7,8,38],[]⟩),
 (28,⟨[2,4,5,7,8],[2,4,5,7,8,27,30,35,41,44,45,48,53,56,59,62],[0,1,2,4,5,6,7,8,38],[]⟩),
 (29,⟨[2,4,6],[2,4,6,22,30],[0,1,2,4,5,6,15],[]⟩),
 (30,⟨[2,4,6],[2,4,6,22,30],[0,1,2,4,5,6,15],[]⟩),
 (31,⟨[1],[1,7,12,18,24,26,30,45,56,67,71,76,81,87,92],[0,1,2,3,4,6,29,31,32,33,34,54,57,58,59,60,65],[]⟩),
 (32,⟨[1],[1,6,8],[0,1,2,5],[]⟩),
 (33,⟨[3,8],[3,8,9,17,22],[0,1,2,3,6,7,8,10,11,12,13,26],[]⟩),
 (34,⟨[2,7],[2,7,22],[0,2,3,4,5,6,7,8,9,21],[]⟩),
 (35,⟨[4,8,9,11,12,14],[4,8,9,11,12,14,28,36,46,60,71,72,74],[0,1,2,3,4,8,9,10,11,12,13,14,15,42,55,67],[]⟩),
 (36,⟨[4,8,9,11,12,14,16],[4,8,9,11,12,14,16,29,39,47,61,74,75,77,79,81],[0,1,2,3,4,8,9,10,11,12,13,14,15,16,43,56,68],[]⟩),
 (37,⟨[2,4,6,8],[2,4,6,8,14,23,26],[0,1,2,4,5,6,8,20,29,30,31,32],[]⟩),
 (38,⟨[2],[2,5,11,17,23,29,35,41,47],[0,1,2,4,10,16,22,28,34,40,46,52],[]⟩),
 (39,⟨[1,2,3],[1,2,3,4,6,7,9,10,13,14,17,18,21,22,25,26,29,30,33,34,36,37,39,40,43,44,46,47,49,50,52,53,56],[0,1,2,3],[]⟩),
 (40,⟨[2,3],[2,3,5,7,10,12,15,17,21,23,27,29,33,35,39,41,45,47,51,53,56,58,61,63,67,69,72,74,77,79,82,84],[0,1,2,3,4,9,14,20,26,32,38,44,50,55,60,66,71,76,81,87],[]⟩),
 (41,⟨[2,3],[2,3,5,7,11,13],[0,1,2,3,4,10,16],[]⟩),
 (42,⟨[2],[2,5,9,13,17,21,25,29,33],[0,1,2,4],[]⟩),
 (43,⟨[2],[2,5,9],[0,1,2,4],[]⟩),
 (44,⟨[2],[2,5,11,17,23,29,35,41,47],[0,1,2,4,10,16,22,28,34,40,46,52],[]⟩),
 (45,⟨[2],[2,5,11],[0,1,2,4,10,16],[]⟩),
 (46,⟨[],[],[0,2,3,4,15],[]⟩),
 (47,⟨[2,3],[2,3,11,15,18,19,22,23,26,28,30,32,42,48,51,63,68,71,73,82],[0,2,3,7,8,16,24,38,43,49,64,69,78],[]⟩),
 (48,⟨[2,3],[2,3,10,20,23,34,37,41,44,54,58,60],[0,2,3,7,8,21,35,40,52,57],[]⟩),
 (49,⟨[1,2],[1,2,3,6,9,12,13,14,15,18,21,24,25,26,28,31,33,36],[0,1,2],[]⟩),
 (50,⟨[2,3,4,5,7,9,11],[2,3,4,5,7,9,11,40,44,51,54,61],[0,1,2,3,4,5,6,7,9,11,12,15,43,53],[]⟩),
 (51,⟨[9],[9,42,48,52],[0,1,2,6,7,9,30,32,33,34,35],[]⟩),
 (52,⟨[1],[1],[0,1,2,3,4,5,8,15],[]⟩),
 (53,⟨[2,4,5],[2,4,5,27,34],[0,1,2,4,5,6,7,10,15,26],[]⟩),
 (54,⟨[1,2,3],[1,2,3,14,21,22,25],[0,1,2,3,4,8,11],[]⟩),
 (55,⟨[1,2,3],[1,2,3,5,8,9,12,13,16,18,21,23,26,27,30,32,35,37,40],[0,1,2,3],[]⟩),
 (56,⟨[2,3,4,5,6,8,9],[2,3,4,5,6,8,9,12,16,18,23,25,28,29,32,34,35,41,42,47,49,53,54,56,60,61,63,67,68,70,75,77,79,80,82,83,85],[0,1,2,3,4,5,6,7,8,9,38,74],[]⟩),
 (57,⟨[],[],[0,2],[]⟩),
 (58,⟨[1],[1,3,7,12,17,22],[0,1,2],[]⟩),
 (59,⟨[2],[2,7,13,21],[0,1,2,4,5,10,20],[]⟩),
 (60,⟨[],[],[0,1,2,6],[]⟩),
 (61,⟨[],[],[0,1,4,5,10,14,25],[]⟩),
 (62,⟨[],[],[0,1,2,6],[]⟩),
 (63,⟨[2,3],[2,3,5,7,11,13],[0,1,2,3,4],[]⟩),
 (64,⟨[1,4],[1,4,5,16,20,23,28,33,35],[0,1,2,4,6,7,8,9,14],[]⟩),
 (65,⟨[],[],[0,1,4,6,7,8,9,10,15],[]⟩),
 (66,⟨[],[],[0,2,3,4,7,15],[]⟩),
 (67,⟨[],[],[0,1,4,6,8,9,10,11,12,15,16,17,18,23,27],[]⟩),
 (68,⟨[1,4],[1,4,5,14,19,25,27,34,36,43,47,50],[0,1,2,3,4,6,7,8,9,41],[]⟩),
 (69,⟨[1,4],[1,4,5,12,17,23,25,31],[0,1,2,4,6,7,8,9,29],[]⟩),
 (70,⟨[],[],[0,1,4,5,6,7,8,10,12],[]⟩),
 (71,⟨[1,2],[1,2,4,8],[0,1,2],[]⟩),
 (72,⟨[2,4,6],[2,4,6,9,17],[0,1,2,4,5,6,7,15],[]⟩),
 (73,⟨[2,3],[2,3,5,7,11,13],[0,1,2,3,4],[]⟩),
 (74,⟨[1,2,3],[1,2,3,14,21,22,25],[0,1,2,3,4,7,11],[]⟩),
 (75,⟨[1],[1,4,9,12,17,23,25,32,38],[0,1,2,3,30,35,44],[]⟩),
 (76,⟨[],[],[0,1,4,5,14,17,25],[]⟩),
 (77,⟨[1],[1,6,8],[0,1,2,5],[]⟩),
 (78,⟨[],[],[0,1,4,5,6,15,18,26,33,44],[]⟩),
 (79,⟨[1,4],[1,4,6,9,13,19,24,26,32,34,39,45,47,57,63,67,73],[0,1,2,3,4,5,11,16,51,54,76],[]⟩),
 (80,⟨[],[],[0,1,4,5,10,12,13,14,24],[]⟩),
 (81,⟨[],[],[0,1,4,5,10,12,13,14,24],[]⟩),
 (82,⟨[2,3,4],[2,3,4],[0,1,2,3,4,5,13],[]⟩),
 (83,⟨[],[],[0,2],[]⟩),
 (84,⟨[1],[1,3,7,12,17,22],[0,1,2],[]⟩),
 (85,⟨[2,6],[2,6,7,14,18],[0,1,2,4,6,8,9,10,11,17],[]⟩),
 (86,⟨[2,3],[2,3,6,8,12,14,19,22,28,34,39],[0,1,2,3,4,5,26,31,45],[]⟩),
 (87,⟨[],[],[0,1,4,5,10,14,25],[]⟩),
 (88,⟨[2,5],[2,5],[0,2,3,4,5],[]⟩),
 (89,⟨[2],[2,6,12],[0,1,2,4],[]⟩),
 (90,⟨[4,8],[4,8,10,14,17,20],[0,1,2,3,4,8],[]⟩),
 (91,⟨[1,2],[1,2,3,6],[0,1,2],[]⟩),
 (92,⟨[2],[2,6,12],[0,1,2,4],[]⟩),
 (93,⟨[3],[3,9,15,24],[0,1,2,3,6,7,12,32],[]⟩),
 (94,⟨[4,8],[4,8,10,14,18,21],[0,1,2,3,4,8],[]⟩),
 (95,⟨[1,2],[1,2,4,7],[0,1,2],[]⟩),
 (96,⟨[1],[1,5,9,12,23,28],[0,1,2,4,8,13,14,15,16,21],[]⟩),
 (97,⟨[4],[4,12,17,32],[0,2,3,4,5,6,7,8,36],[]⟩),
 (98,⟨[],[],[0,1,4],[]⟩),
 (99,⟨[],[],[0,1,4],[]⟩),
 (100,⟨[4,8],[4,8],[0,1,2,3,4,8,9,10,11,18,25],[]⟩),
 (101,⟨[2,3,4,6],[2,3,4,6,18,24,25,28,31,34,35,38],[0,1,2,3,4,5,6,16,30,41],[]⟩),
 (102,⟨[4,8],[4,8],[0,1,2,3,4,8,9,10,11,18,25],[]⟩),
 (103,⟨[2,3,4,6],[2,3,4,6,18,20,27,33,34,37,41,45,46,49],[0,1,2,3,4,5,6,25,39],[]⟩),
 (104,⟨[2],[2,5,11],[0,1,2,4,10,16],[]⟩),
 (105,⟨[2],[2,5],[0,1,2,4,10],[]⟩),
 (106,⟨[2],[2,5],[0,1,2,4,10],[]⟩),
 (107,⟨[],[],[0,1,4,10],[]⟩),
 (108,⟨[],[],[0,1,4,5,11,15,25],[]⟩),
 (109,⟨[],[],[0,1,4,10],[]⟩),
 (110,⟨[],[],[0,1,4,10],[]⟩),
 (111,⟨[1,2,3],[1,2,3,4,7,8,11],[0,1,2,3],[]⟩),
 (112,⟨[1,2,3],[1,2,3,4,7,8,10],[0,1,2,3],[]⟩),
 (113,⟨[1,2,3],[1,2,3,4,6,7,9,10,13],[0,1,2,3],[]⟩),
 (114,⟨[],[],[0,2,3,4,11],[]⟩),
 (115,⟨[],[],[0,2,3,4,11],[]⟩),
 (116,⟨[],[],[0,2,3,4,11],[]⟩),
 (117,⟨[],[],[0,2,3,4,11],[]⟩),
 (118,⟨[2,3],[2,3,5,7,11,13],[0,1,2,3,4,10,15],[]⟩),
 (119,⟨[2,3],[2,3,5,7,10,12,15,17],[0,1,2,3,4,9,14,20],[]⟩),
 (120,⟨[],[],[0,1,4,5,10,14,25],[]⟩),
 (121,⟨[],[],[0,1,4,5,10,14,26],[]⟩),
 (122,⟨[],[],[0,1,4,5,10,14,26],[]⟩),
 (123,⟨[],[],[0,1,4,5,10,14,26],[]⟩),
 (124,⟨[],[],[0,1,4,5,10,14,26],[]⟩),
 (125,⟨[],[],[0,1,4,5,10,14,26],[]⟩),
 (126,⟨[2],[2,5],[0,1,2,4],[]⟩),
 (127,⟨[2],[2,5],[0,1,2,4],[]⟩),
 (128,⟨[],[],[0,1,4,5,9],[]⟩),
 (129,⟨[],[],[0,1,4,5,9],[]⟩),
 (130,⟨[],[],[0,1,4,5,9],[]⟩),
 (131,⟨[],[],[0,1,4,5,9],[]⟩),
 (132,⟨[],[],[0,1,4,5,9],[]⟩),
 (133,⟨[],[],[0,1,4,5,9],[]⟩),
 (134,⟨[2],[2,5],[0,1,2,4,10],[]⟩),
 (135,⟨[2],[2,5],[0,1,2,4,10],[]⟩),
 (136,⟨[],[],[0,1,4,5,9,17],[]⟩),
 (137,⟨[],[],[0,1,4,5,9,19],[]⟩),
 (138,⟨[],[],[0,1,4,5,9,18,27,38,47],[]⟩),
 (139,⟨[],[],[0,1,4,5,9,18,27,36],[]⟩),
 (140,⟨[],[],[0,1,4,5,9,18,28,38,48,58,69],[]⟩),
 (141,⟨[],[],[0,1,4,5,9,18,27],[]⟩),
 (142,⟨[2,4],[2,4,67,76,94,97,103,107],[0,2,3,4,6,7,8,36,40,55,61,65,77,90,96],[]⟩),
 (143,⟨[],[],[0,1,4],[]⟩),
 (144,⟨[],[],[0,2,3,7,8,16,25],[]⟩),
 (145,⟨[2,3],[2,3,13,19,22,28],[0,2,3,7,8,14,20],[]⟩),
 (146,⟨[2,3,6],[2,3,6],[0,2,3,4,5,6,8,9,15,33],[]⟩),
 (147,⟨[2,3],[2,3,13,19,25,31,34],[0,2,3,7,8,14,20,26,32],[]⟩),
 (148,⟨[1,2,3,5],[1,2,3,5,6,8,11,18,24],[0,1,2,3,5,12,13,14,15],[]⟩),
 (149,⟨[],[],[0,2],[]⟩),
 (150,⟨[],[],[0,2,3,5,7,8,9,10],[]⟩),
 (151,⟨[2,4,7],[2,4,7,8,15,19],[0,1,2,4,5,7,9,10,11,12,18],[]⟩),
 (152,⟨[2,3,4],[2,3,4],[0,1,2,3,4,8],[]⟩),
 (153,⟨[2,5],[2,5,23,26,28],[0,1,2,4,5,6,9,16,22],[]⟩),
 (154,⟨[],[],[0,1,4,5,6,7,8,9,10,11,20,30],[]⟩),
 (155,⟨[2],[2],[0,1,2,4,12],[]⟩),
 (156,⟨[],[],[0,2,3,5,7,8,9,10],[]⟩),
 (157,⟨[1,2],[1,2,4,8],[0,1,2],[]⟩),
 (158,⟨[1,2,3],[1,2,3,5,7,11,17,19,27],[0,1,2,3,4,14],[]⟩),
 (159,⟨[],[],[0,2,3,4,9],[]⟩),
 (160,⟨[2,3,4,5,8,10,12],[2,3,4,5,8,10,12,27,34,66,70,77],[0,1,2,3,4,5,6,7,8,9,10,11,12,15,26,52,64,69],[]⟩),
 (161,⟨[],[],[0,1,2,6,7,8,29,34],[]⟩),
 (162,⟨[1],[1],[0,1,2,3,4,5,8,15],[]⟩),
 (163,⟨[2,4,5],[2,4,5,27,34],[0,1,2,4,5,6,7,10,15,26],[]⟩),
 (164,⟨[],[],[0,1,4,5,10,12,13,14,24],[]⟩),
 (165,⟨[],[],[0,2,3,34],[]⟩),
 (166,⟨[2,4,6],[2,4,6,14,16,18,27,31,38],[0,1,2,4,5,6,7,24,34],[]⟩),
 (167,⟨[2],[2],[0,1,2,4,12],[]⟩),
 (168,⟨[],[],[0,2,3,4,9],[]⟩),
 (169,⟨[2,4,6,9],[2,4,6,9,34],[0,1,2,4,5,7,8,9,10,17,18,21,33,37],[]⟩),
 (170,⟨[2,4,6],[2,4,6,20,24,27],[0,1,2,4,5,6,7,14,19],[]⟩),
 (171,⟨[3,6,8],[3,6,8,22,31,34,36],[0,1,2,3,6,7,8,9,16,21],[]⟩),
 (172,⟨[2,4,6],[2,4,6,18],[0,1,2,4,5,6,7,15],[]⟩),
 (173,⟨[2,4,6,8],[2,4,6,8,34],[0,1,2,4,5,7,8,10,18,26,41],[]⟩),
 (174,⟨[2,4,6],[2,4,6,18,22,25],[0,1,2,4,5,6,7,15,20],[]⟩),
 (175,⟨[3,6,8],[3,6,8,20,29,32,34],[0,1,2,3,6,7,8,9,17,27],[]⟩),
 (176,⟨[2,4,6],[2,4,6,18],[0,1,2,4,5,6,7,15],[]⟩),
 (177,⟨[],[],[0,1,4,5,11,15,25],[]⟩),
 (178,⟨[],[],[0,1,4,10],[]⟩),
 (179,⟨[],[],[0,1,4,5,11,15,25],[]⟩),
 (180,⟨[],[],[0,2,3,4,11],[]⟩),
 (181,⟨[],[],[0,2,3,4,11],[]⟩),
 (182,⟨[],[],[0,2,3,4,11],[]⟩),
 (183,⟨[1,2,3],[1,2,3,4,6,7,9,10,12,13,15],[0,1,2,3],[]⟩),
 (184,⟨[1,2,3],[1,2,3,4,6,7,9,10,12],[0,1,2,3],[]⟩),
 (185,⟨[],[],[0,1,4,5,10,14,26],[]⟩),
 (186,⟨[2,3],[2,3,5,7,10,12,15,17,20,22],[0,1,2,3,4,9,14,19,24],[]⟩),
 (187,⟨[2,3],[2,3,5,7,10,12,15,17],[0,1,2,3,4,9,14,19],[]⟩),
 (188,⟨[2,3],[2,3,5,7,10,12],[0,1,2,3,4,9,15],[]⟩),
 (189,⟨[2,3],[2,3,5,7,10,12],[0,1,2,3,4,9,14],[]⟩),
 (190,⟨[],[],[0,1,4,5,9],[]⟩),
 (191,⟨[],[],[0,2,3,5,7],[]⟩),
 (192,⟨[],[],[0,1,4,5,9,20,29],[]⟩),
 (193,⟨[12,14],[12,14],[0,1,2,3,4,5,12,13,14,17,38],[(3,[0,1,2,3,4,5,6,8,10,11,12,13,14,7,9,15,16,17,18])]⟩),
 (194,⟨[1,2,3,5],[1,2,3,5,12,17,20,21,23,29,34,37,38,40,43,48],[0,1,2,3,4,5,15,26,42],[]⟩),
 (195,⟨[],[],[0,2,3,4,5,13],[]⟩),
 (196,⟨[2,3,6],[2,3,6],[0,2,3,4,5,6,19],[]⟩),
 (197,⟨[3,4,6],[3,4,6],[0,1,3,4,5,6,14],[]⟩),
 (198,⟨[2],[2],[0,2],[]⟩),
 (199,⟨[2,3],[2,3,5,7,10,12,15,17,20,22,25,27],[0,1,2,3,4],[]⟩),
 (200,⟨[],[],[0,2,3,5,6,7,8,9,10,17,18,24],[]⟩),
 (201,⟨[1,5,6,8],[1,5,6,8,12,16,23,26,29,32,35,38,41,48,54,62,65],[0,1,2,3,5,6,8,11,17,18,19,20,55,56,57,58],[]⟩),
 (202,⟨[2,4,5,7,9],[2,4,5,7,9,15,23,27,32,34,42,46,51],[0,1,2,4,5,7,9,13,16,17,18,19,26,35,36,37,38,45],[]⟩),
 (203,⟨[],[],[0,2,3,5,7,8,9,10],[]⟩),
 (204,⟨[],[],[0,2,3,6,9],[]⟩),
 (205,⟨[],[],[0,1,4,7],[]⟩),
 (206,⟨[2,4],[2,4,8,14,22],[0,1,2,4,5,6,11,21],[]⟩),
 (207,⟨[2,3],[2,3,7,9,12,14,17,19,22,24,43,45,48,50],[0,1,2,3,4,5,6,31,38,47],[]⟩),
 (208,⟨[],[],[0,2,3,7,43],[]⟩),
 (209,⟨[2,5],[2,5,21,24,27],[0,1,2,4,5,6,9,17,23],[]⟩),
 (210,⟨[],[],[0,1,4,7],[]⟩),
 (211,⟨[],[],[0,1,4,5,6,9,13,24,37],[]⟩),
 (212,⟨[],[],[0,2,3,4,5,6,10,21,29],[]⟩),
 (213,⟨[1,5],[1,5,9,14,20,26,32,34,36,38,55,60,66,73,82],[0,1,2,3,4,5,6,7,8,17,44,69],[]⟩),
 (214,⟨[2,4,5],[2,4,5,10,17,25,27,34,36,43,51,53,60],[0,1,2,4,5,6,7,13,24,39,50],[]⟩),
 (215,⟨[],[],[0,2,3,7,10],[]⟩),
 (216,⟨[2,4,6],[2,4,6],[0,1,2,4,5,6,7,15,24],[]⟩),
 (217,⟨[3,4],[3,4],[0,1,3,4,5],[]⟩),
 (218,⟨[2,4],[2,4],[0,1,2,4,5],[]⟩),
 (219,⟨[3,4,6],[3,4,6],[0,1,3,4,5,6],[]⟩),
 (220,⟨[2,4,6],[2,4,6],[0,1,2,4,5,6,7,15,24],[]⟩),
 (221,⟨[2],[2,5],[0,1,2,4,10],[]⟩),
 (222,⟨[1,2,3],[1,2,3,4,6,7,10],[0,1,2,3],[]⟩),
 (223,⟨[1,2,3],[1,2,3,4,6,7,9],[0,1,2,3],[]⟩),
 (224,⟨[2,3],[2,3,5,7,10,12,15,17,20,22,25,27],[0,1,2,3,4,9,14,19,24,29],[]⟩),
 (225,⟨[],[],[0,2,3,4,8,12],[]⟩),
 (226,⟨[],[],[0,2,3,5,6,7,8,9,14],[]⟩),
 (227,⟨[],[],[0,1,4,5,6,11,12,13,16,19],[]⟩),
 (228,⟨[],[],[0,1,4],[]⟩),
 (229,⟨[],[],[0,2],[]⟩),
 (230,⟨[],[],[0,1,4],[]⟩),
 (231,⟨[],[],[0,2,5],[]⟩),
 (232,⟨[],[],[0,1,4,7],[]⟩),
 (233,⟨[],[],[0,2,3],[]⟩),
 (234,⟨[],[],[0,2],[]⟩),
 (235,⟨[],[],[0,1,4,5,9,17],[]⟩),
 (236,⟨[],[],[0,2,5],[]⟩),
 (237,⟨[2,4],[2,4],[0,1,2,4,5],[]⟩),
 (238,⟨[1],[1,11,17,26],[0,1,2,3,4,8,14,24],[]⟩),
 (239,⟨[2],[2,6],[0,1,2,4,11],[]⟩),
 (240,⟨[1,2,3],[1,2,3,4,6,7,9,10,12,13,15,16,18],[0,1,2,3],[]⟩),
 (241,⟨[],[],[0,2],[]⟩),
 (242,⟨[],[],[0,1,4],[]⟩),
 (243,⟨[],[],[0,1,4,5,7,8,9,16],[]⟩),
 (244,⟨[1,5],[1,5,11,18,19],[0,1,2,3,5,9,12,13,14,15,21],[]⟩)]
def LT (f : FuncId) : FInfo := (LTl.lookup f).getD ⟨[],[],[],[]⟩
def ext0 : String → List Value → St → Option (Value × St) := fun name args st =>
 if name = "internal/bytealg.abigen_runtime_cmpstring" then (match args with
  | [.string a,.string b] => some (.int .i64 (Lib.compareBytes a.data.toList b.data.toList),st)
  | _ => none) else none
set_option maxRecDepth 100000 in
theorem ext0_ok : ExtOK Tryz.prog ext0 := by
 intro f fn args st v st' hf hb he ι w cargs hg hGL hrel hsz ha
 unfold ext0 at he
 split at he
 ·rename_i hname
  have hfn : fn = Tryz.f245 := by
   have hm : fn ∈ Tryz.prog.funcs.toList.filter fun g => g.name == "internal/bytealg.abigen_runtime_cmpstring" :=
    List.mem_filter.2 ⟨Array.mem_toList_iff.2 (Array.mem_of_getElem? hf),by rw [hname]; rfl⟩
   rw [show (Tryz.prog.funcs.toList.filter fun g => g.name == "internal/bytealg.abigen_runtime_cmpstring") = [Tryz.f245] from by kernel_rfl] at hm
   exact List.mem_singleton.1 hm
  subst hfn
  split at he
  ·rename_i a b
   injection he with he
   injection he with h1 h2
   subst h1 h2
   obtain ⟨y0,hy0,hv0⟩ := ha 0 _ rfl
   obtain ⟨y1,hy1,hv1⟩ := ha 1 _ rfl
   have hv0 : y0 = .string a := hv0
   have hv1 : y1 = .string b := hv1
   subst hv0 hv1
   have hc : cargs = #[.string a,.string b] := by
    obtain ⟨l⟩ := cargs
    match l,hsz,hy0,hy1 with
    | [x,y],_,h0,h1 =>
     simp at h0 h1
     rw [h0,h1]
   subst hc
   refine ⟨_,ι,w,?_,hg,Goes.refl hrel,rfl⟩
   rw [run_callFunc_extern hf (by kernel_rfl) (by kernel_rfl) (by kernel_rfl) (e := Extern.BytealgCompare.compare) (by kernel_rfl),Lib.run_compareString]
   rfl
  ·cases he
 ·cases he
abbrev C (f : FuncId) (args : List Value) (st : St) (R : Value → St → Prop) : Prop := AC Tryz.prog LT ext0 f args st R
def ints (k : IntKind) (l : List Int) : List Value := l.map (Value.int k)
def Ints (st : St) (k : IntKind) (p : Option Addr) (l : List Int) : Prop := l.length = 0 ∨ ∃ b off blk,p = some ⟨b,off,none⟩ ∧ st.mem b = some blk ∧ b < st.next ∧ ∀ j < l.length,blk.cells[off + j * 1]? = some (.int k (l.getD j 0))
theorem Ints.at {st : St} {k : IntKind} {p : Option Addr} {l : List Int} (h : Ints st k p l) {j : Nat} (hj : j < l.length) : ∃ b off blk,p = some ⟨b,off,none⟩ ∧ st.mem b = some blk ∧ blk.cells[off + j * 1]? = some (.int k (l.getD j 0)) := by
 rcases h with h | ⟨b,off,blk,h1,h2,_,h3⟩
 ·omega
 ·exact ⟨b,off,blk,h1,h2,h3 j hj⟩
def Own (st : St) (k : IntKind) (p : Option Addr) (l : List Int) : Prop := (p = none ∧ l = []) ∨ ∃ a,p = some ⟨a,0,none⟩ ∧ a < st.next ∧ st.mem a = some ⟨true,1,ints k l⟩
theorem Own.ints {st : St} {k : IntKind} {p : Option Addr} {l : List Int} (h : Own st k p l) : Ints st k p l := by
 rcases h with ⟨rfl,rfl⟩ | ⟨a,rfl,ha,hm⟩
 ·exact .inl rfl
 ·refine .inr ⟨a,0,_,rfl,hm,ha,fun j hj => ?_⟩
  simp [AM.ints,List.getD_eq_getElem?_getD,List.getElem?_eq_getElem hj]
theorem Pres.ints {st st' : St} {k : IntKind} {p : Option Addr} {l : List Int} (h : Pres st st') (hi : Ints st k p l) : Ints st' k p l := by
 rcases hi with hi | ⟨b,off,blk,rfl,hm,hb,hc⟩
 ·exact .inl hi
 ·exact .inr ⟨b,off,blk,rfl,(h.2 b hb).trans hm,Nat.lt_of_lt_of_le hb h.1,hc⟩
theorem Pres.own {st st' : St} {k : IntKind} {p : Option Addr} {l : List Int} (h : Pres st st') (hi : Own st k p l) : Own st' k p l := by
 rcases hi with ⟨rfl,rfl⟩ | ⟨a,rfl,ha,hm⟩
 ·exact .inl ⟨rfl,rfl⟩
 ·exact .inr ⟨a,rfl,Nat.lt_of_lt_of_le ha h.1,(h.2 a ha).trans hm⟩
theorem wrap_i64 {i : Int} (h0 : -9223372036854775808 ≤ i) (h : i < 9223372036854775808) : IntKind.wrap .i64 i = i := by
 unfold IntKind.wrap; simp [IntKind.bits,IntKind.signed]; omega
section
variable {P : Program} {ls : List Tmp} {call : ACallT} {o : Oper} {e : Operand → Value} {lo : Lo} {st : St} {K : Value × Lo × St → Prop}
theorem op_lit0 {t el : TypeId} {u : List Value} {z : Nat} (ho : o.op = .buildSlice t 0 #[]) (he : telem P t = some el) (hz : tsize P el = some z) (hz0 : tzero P el = some u) (h0 : 0 < z) (hu : u.length = z)
  (hK : K (.slice none 0 0,lo,st)) : ∃ r,aoper P ls call o e lo st = some r ∧ K r := by
 refine ⟨_,?_,hK⟩
 obtain ⟨d,op,ty,pos,after,gd⟩ := o
 simp only at ho
 subst ho
 simp [aoper,rop,litNil,he,hz,h0]
theorem Ints.take {k : IntKind} {b off : Nat} {l : List Int} {cs : List Value} (h : ∀ j < l.length,cs[off + j * 1]? = some (.int k (l.getD j 0))) : (cs.drop off).take (l.length * 1) = ints k l := by
 refine List.ext_getElem? fun j => ?_
 rw [List.getElem?_take]
 split
 ·rename_i hj
  rw [List.getElem?_drop]
  have := h j (by omega)
  rw [Nat.mul_one] at this
  rw [this]
  simp [ints,List.getD_eq_getElem?_getD,List.getElem?_eq_getElem (show j < l.length by omega)]
 ·rename_i hj
  rw [List.getElem?_eq_none]
  simp [ints]; omega
theorem op_appN {st0 : St} {c : Call} {t el : TypeId} {ov ox : Operand} {k : IntKind} {p q : Option Addr} {l l2 : List Int} {n m b : Nat} {z0 : List Value}
  (hat : c.argTypes.toList = [t,t]) (har : c.args.toList = [ov,ox]) (he : telem P t = some el) (hz : tsize P el = some 1) (hb : tbytes P el = some b) (hz0 : tzero P el = some z0) (hz1 : z0.length = 1)
  (hov : e ov = .slice p n n) (hox : e ox = .slice q m m) (hn : n = l.length) (hm : m = l2.length) (hl : (n + m) * b ≤ 140737488355328) (hml : n + m ≤ maxLen)
  (hown : Own st k p l) (hint : Ints st k q l2) (hP : Pres st0 st) (hN : New st0.next p)
  (hK : ∀ q st',Own st' k q (l ++ l2) → Pres st0 st' → New st0.next q → K (.slice q (n + m) (n + m),lo,st')) : ∃ r,aappend P c e lo st = some r ∧ K r := by
 subst hn hm
 have hsrc : asrc 1 (rdB lo st) (.slice q l2.length l2.length) = some (l2.length,ints k l2) := by
  by_cases h0 : l2.length = 0
  ·have : l2 = [] := List.length_eq_zero_iff.1 h0
   subst this
   cases q <;> simp [asrc,ints]
  ·rcases hint with h | ⟨b2,off,blk,rfl,hmem,_,hc⟩
   ·exact absurd h h0
   ·have := Ints.take (b := b2) hc
    simp only [asrc,rdB,hmem,Option.map_some,Option.bind_some]
    rw [if_neg h0,this]
    simp [ints]
 have hred : aappend P c e lo st = (aapp 1 l2.length b (.slice p l.length l.length) (ints k l2) st).map fun r => (r.1,lo,r.2) := by
  simp [aappend,hat,har,he,hz,hb,hz0,hz1,hov,hox,hsrc]
 rw [hred]
 unfold aapp
 simp only
 rw [if_pos ⟨hl,hml,Nat.one_pos,by simp [ints]⟩]
 by_cases h0 : l2.length = 0
 ·have : l2 = [] := List.length_eq_zero_iff.1 h0
  subst this
  exact ⟨_,by simp,hK p st (by simpa using hown) hP hN⟩
 ·rw [if_neg h0]
  rcases hown with ⟨rfl,rfl⟩ | ⟨a,rfl,ha,hmem⟩
  ·refine ⟨_,rfl,?_⟩
   have := hK (some ⟨st.next,0,none⟩) (st.push 1 (ints k l2)) (.inr ⟨_,rfl,Nat.lt_succ_self _,by simp [St.push]⟩) ⟨Nat.le_succ_of_le hP.1,fun x hx => ?_⟩ (fun q hq => ?_)
   ·simpa using this
   ·show (if x = st.next then _ else st.mem x) = _
    rw [if_neg (by have := hP.1; omega)]; exact hP.2 x hx
   ·injection hq with hq; rw [← hq]; exact hP.1
  ·simp only [hmem]
   rw [if_pos (by simp [ints])]
   refine ⟨_,rfl,hK (some ⟨st.next,0,none⟩) ((st.set a none).push 1 (ints k l ++ ints k l2)) (.inr ⟨_,rfl,Nat.lt_succ_self _,?_⟩) ⟨Nat.le_succ_of_le hP.1,fun x hx => ?_⟩ (fun q hq => ?_)⟩
   ·simp [St.push,St.set,ints]
   ·show (if x = st.next then _ else if x = a then none else st.mem x) = _
    rw [if_neg (by have := hP.1; omega),if_neg (by have := hN _ rfl; simp only at this; omega)]; exact hP.2 x hx
   ·injection hq with hq; rw [← hq]; exact hP.1
end
theorem Own.push {st : St} {k : IntKind} {l : List Int} : Own (st.push 1 (AM.ints k l)) k (some ⟨st.next,0,none⟩) l := .inr ⟨_,rfl,Nat.lt_succ_self _,by show (if st.next = st.next then _ else _ : Option Blk) = _; rw [if_pos rfl]⟩
theorem Own.r {st : St} {k : IntKind} {p : Option Addr} {l : List Int} : Own st k p l ↔ OwnR st 1 (fun x => [.int k x]) p l := by
 have : AM.ints k l = l.flatMap fun x => [Value.int k x] := by induction l with
  | nil => rfl
  | cons a l ih => rw [List.flatMap_cons,← ih]; rfl
 unfold Own OwnR
 rw [this]
abbrev fI : Int → List Value := fun x => [.int .i64 x]
theorem fI_len (x : Int) : (fI x).length = 1 := rfl
theorem OwnR.ints {st : St} {p : Option Addr} {l : List Int} (h : OwnR st 1 fI p l) : Ints st .i64 p l := (Own.r.2 h).ints
theorem ammL_max (a b : Int) : ammL true [.int .i64 a,.int .i64 b] = some (.int .i64 (max a b)) := by
 simp only [ammL,ammF,amm,Int.max_def,if_true,Option.bind_some]
 congr 2
 split <;> split <;> omega
theorem ammL_min (a b : Int) : ammL false [.int .i64 a,.int .i64 b] = some (.int .i64 (min a b)) := by
 simp only [ammL,ammF,amm,Int.min_def,if_true,Option.bind_some]
 congr 2
 split <;> split <;> simp_all <;> omega
theorem Rows.ints {st : St} {k : IntKind} {p : Option Addr} {l : List Int} (h : Rows st 1 (fun x => [Value.int k x]) p l) : Ints st k p l := by
 rcases h with rfl | ⟨b,off,blk,rfl,hm,hb,hc⟩
 ·exact .inl rfl
 ·refine .inr ⟨b,off,blk,rfl,hm,hb,fun j hj => ?_⟩
  have h1 := hc j l[j] (List.getElem?_eq_getElem hj)
  have h2 := row_cell h1 (i := 0) rfl
  rw [Nat.add_zero] at h2
  rw [h2,List.getD_eq_getElem?_getD,List.getElem?_eq_getElem hj]
  rfl
set_option maxRecDepth 100000 in
theorem wt_bytes {L : LL} {us : List Value} (h : WT Tryz.prog Tryz.prog.globals.size 12 22 L us) : ∃ p l,us = [vS p l.length] ∧ Ints (stL Tryz.prog.globals.size L) .u8 p l ∧ l.length ≤ maxLen := by
 obtain ⟨p,l,h1,h2,h3,_⟩ := WT.rows (f := fun x => [Value.int .u8 x]) (Q := fun _ => True) Tryz.underlying22 (z := 1) (by kernel_rfl) (fun us h => by
  obtain ⟨n,h,_⟩ := WT.int Tryz.underlying5 h
  exact ⟨n,h,trivial⟩) h
 exact ⟨p,l,h1,h2.ints,h3⟩
end Go.Proofs.YtpnolkhfeliehaaGreat.AM
namespace Go.Proofs.YtpnolkhfeliehaaGreat.AM
open Go Go.Proofs
set_option linter.unusedVariables false
set_option linter.unusedSimpArgs false
set_option maxRecDepth 100000
set_option maxHeartbeats 4000000
theorem ac_spec_l1In (a lo hi : Int) (st : St) : C 60 [.int .i64 a,.int .i64 lo,.int .i64 hi] st (fun v s => ∃ x,v = .bool x ∧ x = decide (lo ≤ a ∧ a ≤ hi) ∧ s = st) := by
 refine AC.enter' (i := ⟨[],[],[0,1,2,6],[]⟩) Tryz.func60 rfl rfl (by kernel_rfl) Tryz.ntmps60 (Lb rfl) rfl (cw_sound _ _ _ _ _ ?_)
 repeat' first
  | refine ⟨.inr rfl,_,rfl,?_⟩
  | refine ⟨.inl rfl,_,rfl,?_⟩
  | refine ⟨_,rfl,?_⟩
  | rintro (_|_) h
 all_goals exact ⟨by simp_all <;> omega,rfl⟩
theorem ac_impl_within (a lo hi : Int) (st : St) : C 62 [.int .i64 a,.int .i64 lo,.int .i64 hi] st (fun v s => ∃ x,v = .bool x ∧ x = decide (lo ≤ a ∧ a ≤ hi) ∧ s = st) := by
 refine AC.enter' (i := ⟨[],[],[0,1,2,6],[]⟩) Tryz.func62 rfl rfl (by kernel_rfl) Tryz.ntmps62 (Lb rfl) rfl (cw_sound _ _ _ _ _ ?_)
 repeat' first
  | refine ⟨.inr rfl,_,rfl,?_⟩
  | refine ⟨.inl rfl,_,rfl,?_⟩
  | refine ⟨_,rfl,?_⟩
  | rintro (_|_) h
 all_goals exact ⟨by simp_all <;> omega,rfl⟩
theorem ac_spec_l1Max (a b : Int) (st : St) : C 205 [.int .i64 a,.int .i64 b] st (fun v s => v = .int .i64 (max a b) ∧ s = st) := by
 refine AC.enter' (i := ⟨[],[],[0,1,4,7],[]⟩) Tryz.func205 rfl rfl (by kernel_rfl) Tryz.ntmps205 (Lb rfl) rfl (cw_sound _ _ _ _ _ ?_)
 repeat' first
  | refine ⟨.inr rfl,_,rfl,?_⟩
  | refine ⟨.inl rfl,_,rfl,?_⟩
  | refine ⟨_,rfl,?_⟩
  | rintro (_|_) h
 all_goals exact ⟨congrArg (Value.int .i64) (by simp at h; simp only [Int.max_def]; split <;> omega),rfl⟩
theorem ac_laws_big (p : Option Addr) (n : Nat) (st : St) : C 9 [.slice p n n] st (fun v s => ∃ x,v = .bool x ∧ x = decide (1048576 < n) ∧ s = st) := by
 refine AC.enter' (i := ⟨[],[],[0,2],[]⟩) Tryz.func9 rfl rfl (by kernel_rfl) Tryz.ntmps9 (Lb rfl) rfl (cw_sound _ _ _ _ _ ?_)
 repeat' first
  | refine ⟨.inr rfl,_,rfl,?_⟩
  | refine ⟨.inl rfl,_,rfl,?_⟩
  | refine ⟨_,rfl,?_⟩
  | rintro (_|_) h
 all_goals exact ⟨by simp_all <;> omega,rfl⟩
theorem ac_impl_copyInts (p : Option Addr) (a : List Int) (st : St) (ha : Ints st .i64 p a) (hs : a.length < 1099511627776) : C 149 [.slice p a.length a.length] st (fun v s => ∃ r,v = .slice r a.length a.length ∧ Own s .i64 r a ∧ Pres st s ∧ New st.next r) := by
 refine AC.enter' (i := ⟨[],[],[0,2],[]⟩) Tryz.func149 rfl rfl (by kernel_rfl) Tryz.ntmps149 (Lb rfl) rfl (cw_sound _ _ _ _ _ ?_)
 refine op_lit0 rfl rfl rfl rfl Nat.one_pos rfl ?_
 refine op_appN (b := 8) (l := []) (l2 := a) rfl rfl rfl rfl rfl rfl rfl rfl rfl rfl rfl (show (0 + a.length) * 8 ≤ 140737488355328 by omega) (show 0 + a.length ≤ maxLen by unfold maxLen; omega) (.inl ⟨rfl,rfl⟩) ha (Pres.refl _) New.none ?_
 intro q st' hO hP hN
 refine ⟨.inl rfl,_,rfl,q,?_,hO,hP,hN⟩
 show Value.slice q (0 + a.length) (0 + a.length) = _
 rw [Nat.zero_add]
structure Ent where
 inc : Int
 rank : Int
 beat : Int
 ver : Int
 data : ByteArray
structure Itm where
 id : Int
 e : Ent
structure Flr where
 id : Int
 inc : Int
structure Sta where
 items : List Itm
 floors : List Flr
abbrev cEnt (e : Ent) : List Value := [vI e.inc,vI e.rank,vI e.beat,vI e.ver,.string e.data]
abbrev cItm (x : Itm) : List Value := [vI x.id,vI x.e.inc,vI x.e.rank,vI x.e.beat,vI x.e.ver,.string x.e.data]
abbrev cFlr (x : Flr) : List Value := [vI x.id,vI x.inc]
structure SV where
 p : Option Addr
 q : Option Addr
 x : Sta
abbrev cSV (s : SV) : List Value := [vS s.p s.x.items.length,vS s.q s.x.floors.length]
def zEnt : Ent := ⟨0,0,0,0,⟨#[]⟩⟩
def szOk (n : Nat) : Prop := n ≤ 1048576
theorem toList_inj {a b : ByteArray} (h : a.toList = b.toList) : a = b := by
 rw [ByteArray.toList_eq,ByteArray.toList_eq] at h
 rw [ByteArray.ext_iff]
 exact Array.toList_inj.1 h
theorem beq_bytes {a b : ByteArray} : (a.toList == b.toList) = true ↔ a = b :=
 ⟨fun h => toList_inj (beq_iff_eq.1 h),fun h => by rw [h]; exact beq_self_eq_true _⟩
theorem ld_lt {ρ : Tm} {o : Op} {t0 : TypeId} {x0 : Operand} {q : Addr} {n0 : Nat → Prop} (ho : o = .load t0 x0) (hx : ev ρ x0 = .pointer (some q)) (hb : n0 q.block) : ldChk n0 o (ev ρ) := by
 subst ho
 intro t x h p hp _
 injection h with h1 h2
 rw [← h2,hx] at hp
 injection hp with hp
 injection hp with hp
 rw [← hp]; exact hb
theorem ld_own {ρ : Tm} {o : Op} {t0 : TypeId} {x0 : Operand} {q : Addr} {n0 : Nat → Prop} {g : Nat} (ho : o = .load t0 x0) (hx : ev ρ x0 = .pointer (some q)) (hs : q.spot = some g) : ldChk n0 o (ev ρ) := by
 subst ho
 intro t x h p hp h0
 injection h with h1 h2
 rw [← h2,hx] at hp
 injection hp with hp
 injection hp with hp
 rw [← hp,hs] at h0
 cases h0
theorem AC.tru {f : FuncId} {args : List Value} {st : St} {P : Prop} (h : C f args st (fun v s => ∃ x,v = .bool x ∧ (x = true ↔ P) ∧ s = st)) (hp : P) : C f args st (fun v s => v = vB true ∧ s = st) :=
 AC.mono h fun v s ⟨x,h1,h2,h3⟩ => ⟨by rw [h1,h2.2 hp],h3⟩
theorem Rows.atB {α : Type} {st : St} {z : Nat} {f : α → List Value} {p : Option Addr} {l : List α} (h : Rows st z f p l) {j : Nat} (hj : j < l.length) : ∃ b off blk x,p = some ⟨b,off,none⟩ ∧ l[j]? = some x ∧ st.mem b = some blk ∧ (blk.cells.drop (off + j * z)).take z = f x ∧ b < st.next := by
 rcases h with rfl | ⟨b,off,blk,h1,h2,hb,h3⟩
 ·cases hj
 ·exact ⟨b,off,blk,l[j],h1,List.getElem?_eq_getElem hj,h2,h3 j _ (List.getElem?_eq_getElem hj),hb⟩
theorem iff_lists {α : Type} {a b : List α} (hl : a.length = b.length) (h : ∀ (i : Nat) x y,i < a.length → a[i]? = some x → b[i]? = some y → x = y) : a = b := by
 refine List.ext_getElem hl fun n h1 h2 => h n _ _ h1 (List.getElem?_eq_getElem h1) (List.getElem?_eq_getElem h2)
section
variable {P : Program} {ls : List Tmp} {call : ACallT} {o : Oper} {e : Operand → Value} {lo : Lo} {st : St} {K : Value × Lo × St → Prop} {α : Type} {f : α → List Value} {z : Nat}
theorem op_el {t el : TypeId} {x i : Operand} {p : Option Addr} {l : List α} {n c : Nat} {k : IntKind} {j : Int} {y : α} (i' : Nat) (hR : Rows st z f p l) (hy : l[i']? = some y) (ho : o.op = .indexAddr t x i) (hx : e x = .slice p n c) (hi : e i = .int k j) (hn : n = l.length) (hj : j = (i' : Int)) (ht : telem P t = some el) (hz : tsize P el = some z)
  (hK : ∀ b d blk,b < st.next → st.mem b = some blk → (blk.cells.drop d).take z = f y → (∃ o,p = some ⟨b,o,none⟩) → K (.pointer (some ⟨b,d,none⟩),lo,st)) : ∃ r,aoper P ls call o e lo st = some r ∧ K r := by
 obtain ⟨hlt,_⟩ := List.getElem?_eq_some_iff.1 hy
 rcases hR with rfl | ⟨b,off,blk,h1,h2,hb,h3⟩
 ·cases hlt
 ·subst hn hj
  refine ⟨_,op_idx (q := ⟨b,off,none⟩) ho (hx.trans (by rw [h1])) hi ht hz (Int.natCast_nonneg _) (Int.ofNat_lt.2 hlt),?_⟩
  exact hK b (off + i' * z) blk hb h2 (h3 i' y hy) ⟨off,h1⟩
theorem op_at {t el : TypeId} {x i : Operand} {p : Option Addr} {l : List α} {n c : Nat} {k : IntKind} {j : Int} (i' : Nat) (hR : Rows st z f p l) (hlt : i' < l.length) (ho : o.op = .indexAddr t x i) (hx : e x = .slice p n c) (hi : e i = .int k j) (hn : n = l.length) (hj : j = (i' : Int)) (ht : telem P t = some el) (hz : tsize P el = some z)
  (hK : ∀ y b d blk,l[i']? = some y → b < st.next → st.mem b = some blk → (blk.cells.drop d).take z = f y → (∃ o,p = some ⟨b,o,none⟩) → K (.pointer (some ⟨b,d,none⟩),lo,st)) : ∃ r,aoper P ls call o e lo st = some r ∧ K r :=
 op_el i' hR (List.getElem?_eq_getElem hlt) ho hx hi hn hj ht hz fun b d blk => hK _ b d blk (List.getElem?_eq_getElem hlt)
end
section
variable {P : Program} {ls : List Tmp} {call : ACallT} {o : Oper} {e : Operand → Value} {lo : Lo} {st : St} {K : Value × Lo × St → Prop} {α : Type} {f : α → List Value} {z : Nat}
theorem op_snoc {c : Call} {t el : TypeId} {ov ox : Operand} {p : Option Addr} {l : List α} {x : α} {n b : Nat} {z0 : List Value}
  (hat : c.argTypes.toList = [t,t]) (har : c.args.toList = [ov,ox]) (he : telem P t = some el) (hzz : tsize P el = some z) (hb : tbytes P el = some b) (hz0 : tzero P el = some z0) (hz1 : z0.length = z) (h0 : 0 < z) (hz : ∀ x,(f x).length = z)
  (hov : e ov = .slice p n n) (hox : e ox = .slice (some ⟨st.next,0,none⟩) 1 1) (hn : n = l.length) (hl : (l.length + 1) * b ≤ 140737488355328) (hml : l.length + 1 ≤ maxLen)
  (hown : OwnR st z f p l)
  (hK : ∀ q st',OwnR st' z f q (l ++ [x]) → Pr p st st' → New st.next q → K (.slice q (l ++ [x]).length (l ++ [x]).length,lo,st')) : ∃ r,aappend P c e lo (st.push z ([x].flatMap f)) = some r ∧ K r := by
 subst hn
 refine op_add hat har he hzz hb hz0 hz1 h0 hz hov hox rfl hl hml hown fun q st' h1 h2 h3 => ?_
 have := hK q st' h1 h2 h3
 rw [List.length_append] at this
 exact this
theorem op_cat' {c : Call} {t el : TypeId} {ov ox : Operand} {p q : Option Addr} {l l2 : List α} {n m b : Nat} {z0 : List Value}
  (hat : c.argTypes.toList = [t,t]) (har : c.args.toList = [ov,ox]) (he : telem P t = some el) (hzz : tsize P el = some z) (hb : tbytes P el = some b) (hz0 : tzero P el = some z0) (hz1 : z0.length = z) (h0 : 0 < z) (hz : ∀ x,(f x).length = z)
  (hov : e ov = .slice p n n) (hox : e ox = .slice q m m) (hn : n = l.length) (hm : m = l2.length) (hl : (l.length + l2.length) * b ≤ 140737488355328) (hml : l.length + l2.length ≤ maxLen)
  (hown : OwnR st z f p l) (hint : Rows st z f q l2)
  (hK : ∀ q st',OwnR st' z f q (l ++ l2) → Pr p st st' → (q = p ∧ l2 = [] ∧ st' = st ∨ 0 < l2.length ∧ New st.next q) → K (.slice q (l ++ l2).length (l ++ l2).length,lo,st')) : ∃ r,aappend P c e lo st = some r ∧ K r := by
 subst hn hm
 refine op_app hat har he hzz hb hz0 hz1 h0 hz hov hox rfl rfl hl hml hown hint fun q st' h1 h2 h3 => ?_
 have := hK q st' h1 h2 h3
 rw [List.length_append] at this
 exact this
end
theorem sx_nil {Q : Nat → Prop} : ∀ x ∈ ([] : List Nat),Q x := fun x hx => by cases hx
theorem sx_cons {Q : Nat → Prop} {a : Nat} {l : List Nat} (h : Q a) (k : ∀ x ∈ l,Q x) : ∀ x ∈ a :: l,Q x := fun x hx => by
 rcases List.mem_cons.1 hx with rfl | hx
 ·exact h
 ·exact k x hx
theorem ow_cut {P : Program} {LT : FuncId → FInfo} {ext : String → List Value → St → Option (Value × St)} {ls : List Tmp} {ops : Array Oper} {os : List Oper} {ρ : Tm} {lo : Lo} {st : St} {K : Tm → Lo → St → Prop} (L : List (Nat × Value)) (h : Has ρ L) (hK : ∀ ρ0,ow P LT ext ls ops os (ov L ρ0) lo st K) : ow P LT ext ls ops os ρ lo st K := by
 rw [ov_has h]; exact hK ρ
theorem owE_cut {P : Program} {LT : FuncId → FInfo} {ext : String → List Value → St → Option (Value × St)} {ls : List Tmp} {ops : Array Oper} {n0 : Nat → Prop} {fl ld sx : List Nat} {os : List Oper} {j : Nat} {ρ : Tm} {lo : Lo} {st : St} {K : Tm → Lo → St → Prop} (L : List (Nat × Value)) (h : Has ρ L) (hK : ∀ ρ0,owE P LT ext ls ops n0 fl ld sx os j (ov L ρ0) lo st K) : owE P LT ext ls ops n0 fl ld sx os j ρ lo st K := by
 rw [ov_has h]; exact hK ρ
theorem splice_all : ∀ (vs cs : List Value),cs.length = vs.length → splice cs 0 vs = vs := fun vs cs h => by
 have := splice_eq vs [] cs h
 simpa using this
theorem op_stw {P : Program} {ls : List Tmp} {call : ACallT} {o : Oper} {e : Operand → Value} {lo : Lo} {st : St} {t : TypeId} {x u : Operand} {b g : Nat} {cs vs : List Value} {v : Value} (ho : o.op = .store t x u) (hx : e x = .pointer (some ⟨b,0,some g⟩)) (hu : e u = v) (hv : v.cells.toList = vs) (hl : lo.loc b = some (g,cs)) (hz : tsize P t = some vs.length) (hi : vs.all isCell = true) (hb : cs.length = vs.length) : aoper P ls call o e lo st = some (undef,lo.set b g vs,st) := by
 obtain ⟨d,op,ty,pos,after,gd⟩ := o
 simp only at ho
 subst ho hv hu
 have hc : (tsize P t) = some (e u).cells.toList.length ∧ ((e u).cells.toList.all isCell = true) := ⟨hz,hi⟩
 simp only [aoper,astore,hx,hl]
 rw [if_pos hc,if_pos ⟨trivial,by omega⟩,splice_all _ _ hb]
theorem Rows.lt {α : Type} {st : St} {z : Nat} {f : α → List Value} {p : Option Addr} {l : List α} {i b : Nat} {y : α} (h : Rows st z f p l) (hy : l[i]? = some y) (hp : ∃ o,p = some ⟨b,o,none⟩) : b < st.next := by
 obtain ⟨o,hp⟩ := hp
 rcases h with rfl | ⟨b',off,blk,h1,_,hb,_⟩
 ·cases hy
 ·rw [hp] at h1
  injection h1 with h1
  injection h1 with h1 _ _
  rw [h1]; exact hb
theorem sub_row {cs r q : List Value} {d z : Nat} (i n : Nat) (hc : (cs.drop d).take z = r) (hq : (r.drop i).take n = q) (hle : i + n ≤ z) : (cs.drop (d + i)).take n = q := by
 subst hc hq
 rw [List.drop_take,List.take_take,List.drop_drop,Nat.min_eq_left (by omega)]
end Go.Proofs.YtpnolkhfeliehaaGreat.AM
namespace Go.Proofs.YtpnolkhfeliehaaGreat.AM
open Go Go.Proofs
set_option linter.unusedVariables false
set_option linter.unusedSimpArgs false
structure Pc where
 z : Nat
 p : Option Addr
 cs : List Value
def Pc.own (st : St) (c : Pc) : Prop := (c.p = none ∧ c.cs = []) ∨ ∃ a,c.p = some ⟨a,0,none⟩ ∧ a < st.next ∧ st.mem a = some ⟨true,c.z,c.cs⟩
abbrev pcR {α : Type} (z : Nat) (f : α → List Value) (p : Option Addr) (l : List α) : Pc := ⟨z,p,l.flatMap f⟩
theorem own_pc {α : Type} {st : St} {z : Nat} {f : α → List Value} {p : Option Addr} {l : List α} (h : OwnR st z f p l) : (pcR z f p l).own st := by
 rcases h with ⟨rfl,rfl⟩ | h
 ·exact .inl ⟨rfl,rfl⟩
 ·exact .inr h
theorem pc_own {α : Type} {st : St} {z : Nat} {f : α → List Value} {p : Option Addr} {l : List α} (h0 : 0 < z) (hz : ∀ x,(f x).length = z) (h : (pcR z f p l).own st) : OwnR st z f p l := by
 rcases h with ⟨h1,h2⟩ | h
 ·refine .inl ⟨h1,?_⟩
  have h3 := flat_len hz l
  have h2 : l.flatMap f = [] := h2
  rw [h2,List.length_nil] at h3
  have : l.length = 0 := by
   rcases Nat.eq_zero_or_pos l.length with h | h
   ·exact h
   ·have := Nat.mul_pos h h0; omega
  exact List.length_eq_zero_iff.1 this
 ·exact .inr h
def PrL (ps : List (Option Addr)) (st st' : St) : Prop := st.next ≤ st'.next ∧ ∀ a,a < st.next → (∀ p ∈ ps,∀ q,p = some q → a ≠ q.block) → st'.mem a = st.mem a
def OwnP (st : St) (l : List Pc) : Prop := (∀ c ∈ l,c.own st) ∧ l.Pairwise fun a b => Dis a.p b.p
def NewP (n : Nat) (l : List Pc) : Prop := ∀ c ∈ l,New n c.p
theorem Pc.own.old {st : St} {c : Pc} (h : c.own st) : Old st.next c.p := by
 rcases h with ⟨h,_⟩ | ⟨a,h,ha,_⟩
 ·rw [h]; exact Old.none
 ·rw [h]; exact Old.some ha
theorem Pc.own.keep {st st' : St} {c : Pc} (h : c.own st) (hn : st.next ≤ st'.next) (hm : ∀ q,c.p = some q → st'.mem q.block = st.mem q.block) : c.own st' := by
 rcases h with h | ⟨a,h1,ha,h2⟩
 ·exact .inl h
 ·exact .inr ⟨a,h1,Nat.lt_of_lt_of_le ha hn,(hm _ h1).trans h2⟩
theorem PrL.refl (ps : List (Option Addr)) (st : St) : PrL ps st st := ⟨Nat.le_refl _,fun _ _ _ => rfl⟩
theorem PrL.trans {ps : List (Option Addr)} {a b c : St} (h : PrL ps a b) (k : PrL ps b c) : PrL ps a c := ⟨Nat.le_trans h.1 k.1,fun x hx hn => (k.2 x (Nat.lt_of_lt_of_le hx h.1) hn).trans (h.2 x hx hn)⟩
theorem Pr.l {p : Option Addr} {st st' : St} (h : Pr p st st') {ps : List (Option Addr)} (hp : p ∈ ps) : PrL ps st st' := ⟨h.1,fun a ha hn => h.2 a ha (hn p hp)⟩
theorem Pres.l {ps : List (Option Addr)} {st st' : St} (h : Pres st st') : PrL ps st st' := ⟨h.1,fun a ha _ => h.2 a ha⟩
theorem PrL.mono {ps qs : List (Option Addr)} {st st' : St} (h : PrL ps st st') (hs : ∀ p ∈ ps,p ∈ qs) : PrL qs st st' := ⟨h.1,fun a ha hn => h.2 a ha fun p hp => hn p (hs p hp)⟩
theorem PrL.pres {ps : List (Option Addr)} {st0 st st' : St} (h : PrL ps st st') (h0 : Pres st0 st) (hn : ∀ p ∈ ps,New st0.next p) : Pres st0 st' :=
 ⟨Nat.le_trans h0.1 h.1,fun a ha => (h.2 a (Nat.lt_of_lt_of_le ha h0.1) fun p hp q hq => by have := hn p hp q hq; omega).trans (h0.2 a ha)⟩
theorem OwnP.nil {st : St} : OwnP st [] := ⟨fun c hc => (by cases hc),List.Pairwise.nil⟩
theorem NewP.nil {n : Nat} : NewP n [] := fun c hc => by cases hc
theorem NewP.le {n m : Nat} {l : List Pc} (h : NewP m l) (hn : n ≤ m) : NewP n l := fun c hc => (h c hc).le hn
theorem NewP.cons {n : Nat} {c : Pc} {l : List Pc} (h : New n c.p) (k : NewP n l) : NewP n (c :: l) := fun d hd => by
 rcases List.mem_cons.1 hd with rfl | hd
 ·exact h
 ·exact k d hd
theorem NewP.app {n : Nat} {l m : List Pc} (h : NewP n l) (k : NewP n m) : NewP n (l ++ m) := fun d hd => by
 rcases List.mem_append.1 hd with hd | hd
 ·exact h d hd
 ·exact k d hd
theorem OwnP.keep {st st' : St} {l : List Pc} (h : OwnP st l) (hn : st.next ≤ st'.next) (hm : ∀ c ∈ l,∀ q,c.p = some q → st'.mem q.block = st.mem q.block) : OwnP st' l := ⟨fun c hc => (h.1 c hc).keep hn (hm c hc),h.2⟩
theorem OwnP.pres {st st' : St} {l : List Pc} (h : OwnP st l) (hp : Pres st st') : OwnP st' l := h.keep hp.1 fun c hc q hq => hp.2 _ ((h.1 c hc).old q hq)
theorem OwnP.prl {st st' : St} {l : List Pc} {ps : List (Option Addr)} (h : OwnP st l) (hp : PrL ps st st') (hd : ∀ c ∈ l,∀ p ∈ ps,Dis p c.p) : OwnP st' l := h.keep hp.1 fun c hc q hq => hp.2 _ ((h.1 c hc).old q hq) fun p hp r hr he => hd c hc p hp r q hr hq he.symm
theorem OwnP.app {st : St} {l m : List Pc} (h : OwnP st l) (k : OwnP st m) (hd : ∀ a ∈ l,∀ b ∈ m,Dis a.p b.p) : OwnP st (l ++ m) :=
 ⟨fun c hc => by
  rcases List.mem_append.1 hc with hc | hc
  ·exact h.1 c hc
  ·exact k.1 c hc,List.pairwise_append.2 ⟨h.2,k.2,hd⟩⟩
theorem OwnP.join {st st' : St} {l m : List Pc} (h : OwnP st l) (hp : Pres st st') (k : OwnP st' m) (hn : NewP st.next m) : OwnP st' (l ++ m) :=
 (h.pres hp).app k fun a ha b hb => Dis.of (h.1 a ha).old (hn b hb)
theorem OwnP.one {st : St} {c : Pc} (h : c.own st) : OwnP st [c] := ⟨fun d hd => by rw [List.mem_singleton.1 hd]; exact h,List.pairwise_singleton _ _⟩
theorem OwnP.left {st : St} {l m : List Pc} (h : OwnP st (l ++ m)) : OwnP st l := ⟨fun c hc => h.1 c (List.mem_append_left _ hc),(List.pairwise_append.1 h.2).1⟩
theorem OwnP.right {st : St} {l m : List Pc} (h : OwnP st (l ++ m)) : OwnP st m := ⟨fun c hc => h.1 c (List.mem_append_right _ hc),(List.pairwise_append.1 h.2).2.1⟩
theorem OwnP.tail {st : St} {c : Pc} {m : List Pc} (h : OwnP st (c :: m)) : OwnP st m := OwnP.right (l := [c]) h
theorem Dis.comm {p q : Option Addr} : Dis p q ↔ Dis q p := ⟨Dis.symm,Dis.symm⟩
theorem OwnP.update {st st' : St} {l m : List Pc} {c d : Pc} (h : OwnP st (l ++ c :: m)) (hp : Pr c.p st st') (hd : d.own st') (he : d.p = c.p) : OwnP st' (l ++ d :: m) := by
 obtain ⟨h1,h2⟩ := h
 obtain ⟨p1,p2,p3⟩ := List.pairwise_append.1 h2
 obtain ⟨p4,p5⟩ := List.pairwise_cons.1 p2
 have key : ∀ e ∈ l ++ c :: m,Dis c.p e.p → e.own st' := fun e hm hdis => (h1 e hm).keep hp.1 fun q hq => hp.2 _ ((h1 e hm).old q hq) fun r hr hne => hdis r q hr hq hne.symm
 refine ⟨fun e he' => ?_,List.pairwise_append.2 ⟨p1,List.pairwise_cons.2 ⟨fun a ha => by rw [he]; exact p4 a ha,p5⟩,fun a ha b hb => ?_⟩⟩
 ·rcases List.mem_append.1 he' with hm | hm
  ·exact key e (List.mem_append_left _ hm) (p3 e hm c (List.mem_cons_self ..)).symm
  ·rcases List.mem_cons.1 hm with rfl | hm
   ·exact hd
   ·exact key e (List.mem_append_right _ (List.mem_cons_of_mem _ hm)) (p4 e hm)
 ·rcases List.mem_cons.1 hb with rfl | hb
  ·rw [he]; exact p3 a ha c (List.mem_cons_self ..)
  ·exact p3 a ha b (List.mem_cons_of_mem _ hb)
theorem OwnP.renew {st st' : St} {l m : List Pc} {c d : Pc} (h : OwnP st (l ++ c :: m)) (hp : Pr c.p st st') (hd : d.own st') (hn : New st.next d.p) : OwnP st' (l ++ d :: m) := by
 obtain ⟨h1,h2⟩ := h
 obtain ⟨p1,p2,p3⟩ := List.pairwise_append.1 h2
 obtain ⟨p4,p5⟩ := List.pairwise_cons.1 p2
 have key : ∀ e ∈ l ++ c :: m,Dis c.p e.p → e.own st' := fun e hm hdis => (h1 e hm).keep hp.1 fun q hq => hp.2 _ ((h1 e hm).old q hq) fun r hr hne => hdis r q hr hq hne.symm
 refine ⟨fun e he' => ?_,List.pairwise_append.2 ⟨p1,List.pairwise_cons.2 ⟨fun a ha => (Dis.of (h1 a (List.mem_append_right _ (List.mem_cons_of_mem _ ha))).old hn).symm,p5⟩,fun a ha b hb => ?_⟩⟩
 ·rcases List.mem_append.1 he' with hm | hm
  ·exact key e (List.mem_append_left _ hm) (p3 e hm c (List.mem_cons_self ..)).symm
  ·rcases List.mem_cons.1 hm with rfl | hm
   ·exact hd
   ·exact key e (List.mem_append_right _ (List.mem_cons_of_mem _ hm)) (p4 e hm)
 ·rcases List.mem_cons.1 hb with rfl | hb
  ·exact Dis.of (h1 a (List.mem_append_left _ ha)).old hn
  ·exact p3 a ha b (List.mem_cons_of_mem _ hb)
structure RV where
 p : Option Addr
 l : List Int
abbrev cRV (r : RV) : List Value := [vS r.p r.l.length]
abbrev pcRV (r : RV) : Pc := pcR 1 fI r.p r.l
abbrev pcT (p : Option Addr) (t : List RV) : List Pc := pcR 1 cRV p t :: t.map pcRV
abbrev rls (t : List RV) : List (List Int) := t.map (·.l)
theorem cRV_len (r : RV) : (cRV r).length = 1 := rfl
def RdT (st : St) (p : Option Addr) (t : List RV) : Prop := Rows st 1 cRV p t ∧ ∀ r ∈ t,Rows st 1 fI r.p r.l
theorem RdT.pres {st st' : St} {p : Option Addr} {t : List RV} (h : RdT st p t) (k : Pres st st') : RdT st' p t := ⟨k.rows h.1,fun r hr => k.rows (h.2 r hr)⟩
theorem OwnP.outer {st : St} {p : Option Addr} {t : List RV} (h : OwnP st (pcT p t)) : OwnR st 1 cRV p t := pc_own Nat.one_pos cRV_len (h.1 _ (List.mem_cons_self ..))
theorem OwnP.row {st : St} {p : Option Addr} {t : List RV} (h : OwnP st (pcT p t)) {r : RV} (hr : r ∈ t) : OwnR st 1 fI r.p r.l := pc_own Nat.one_pos fI_len (h.1 _ (List.mem_cons_of_mem _ (List.mem_map_of_mem hr)))
theorem OwnP.rdT {st : St} {p : Option Addr} {t : List RV} (h : OwnP st (pcT p t)) : RdT st p t := ⟨h.outer.rows cRV_len,fun r hr => (h.row hr).rows fI_len⟩
end Go.Proofs.YtpnolkhfeliehaaGreat.AM
namespace Go.Proofs.YtpnolkhfeliehaaGreat.AM
open Go Go.Proofs
set_option linter.unusedVariables false
set_option linter.unusedSimpArgs false
set_option maxRecDepth 100000
set_option maxHeartbeats 4000000
theorem len_cFlr (x : Flr) : (cFlr x).length = 2 := rfl
theorem len_cItm (x : Itm) : (cItm x).length = 6 := rfl
theorem ac_spec_l3Node (id : Int) (st : St) : C 57 [vI id] st (fun v s => ∃ x,v = .bool x ∧ x = decide (0 ≤ id ∧ id ≤ 4) ∧ s = st) := by
 refine AC.enterX (i := ⟨[],[],[0,2],[]⟩) [] Tryz.func57 rfl rfl (by kernel_rfl) (by kernel_rfl) Tryz.ntmps57 (Lb rfl) rfl ?_
 refine Cu lo0 st [(0,vI id),(2,vB false)] fun _ => ?_
 refine ⟨_,rfl,(ac_spec_l1In id 0 4 st).mono ?_⟩
 rintro _ st ⟨x,rfl,hx,rfl⟩
 exact cxs (Rt ⟨x,rfl,hx,rfl⟩)
theorem ac_impl_isNode (id : Int) (st : St) : C 83 [vI id] st (fun v s => ∃ x,v = .bool x ∧ x = decide (0 ≤ id ∧ id ≤ 4) ∧ s = st) := by
 refine AC.enterX (i := ⟨[],[],[0,2],[]⟩) [] Tryz.func83 rfl rfl (by kernel_rfl) (by kernel_rfl) Tryz.ntmps83 (Lb rfl) rfl ?_
 refine Cu lo0 st [(0,vI id),(2,vB false)] fun _ => ?_
 refine ⟨_,rfl,(ac_impl_within id 0 4 st).mono ?_⟩
 rintro _ st ⟨x,rfl,hx,rfl⟩
 exact cxs (Rt ⟨x,rfl,hx,rfl⟩)
def markOk (l : List Flr) (j : Nat) (x : Flr) : Prop := (0 ≤ x.id ∧ x.id ≤ 4) ∧ (1 ≤ x.inc ∧ x.inc ≤ 1000) ∧ ∀ y,0 < j → l[j - 1]? = some y → y.id < x.id
def marksOk (l : List Flr) : Prop := ∀ (j : Nat) x,l[j]? = some x → markOk l j x
theorem ac_spec_MarksOk (p : Option Addr) (l : List Flr) (st : St) (hR : Rows st 2 cFlr p l) (hs : szOk l.length) : C 208 [vS p l.length] st (fun v s => ∃ x,v = .bool x ∧ (x = true ↔ marksOk l) ∧ s = st) := by
 have hs : l.length ≤ 1048576 := hs
 refine AC.enterX (i := ⟨[],[],[0,2,3,7,43],[]⟩) [(4,[],[])] Tryz.func208 rfl rfl (by kernel_rfl) (by kernel_rfl) Tryz.ntmps208 (Lb rfl) rfl ?_
 refine cxs ?_
 refine Cu lo0 st [(0,vS p l.length),(2,vB false),(3,vI 0)] fun _ => ?_
 refine AW.loop0 (fun i : Nat => [(0,vS p l.length),(3,vI (i : Int))]) (fun m (i : Nat) st' => m = l.length - i ∧ i ≤ l.length ∧ (∀ (j : Nat) x,j < i → l[j]? = some x → markOk l j x) ∧ st = st') 0 _ ⟨rfl,rfl,trivial⟩ rfl ⟨rfl,Nat.zero_le _,fun j x h => absurd h (Nat.not_lt_zero _),rfl⟩ ?_
 rintro m i ρ0 st' ⟨rfl,hi,hok,rfl⟩
 iterate 2 refine ⟨_,rfl,?_⟩
 rintro (_|_) h1
 ·replace h1 : ¬ ((i : Int) < (l.length : Int)) := of_decide_eq_false h1
  refine Cu lo0 st [(0,vS p l.length),(3,vI (i : Int)),(7,vB false)] fun _ => ?_
  refine cxs ?_
  exact cxs (Rt ⟨true,rfl,⟨fun _ j x hx => hok j x (by have := (List.getElem?_eq_some_iff.1 hx).1; omega) hx,fun _ => rfl⟩,rfl⟩)
 ·replace h1 : (i : Int) < (l.length : Int) := of_decide_eq_true h1
  refine Cu lo0 st [(0,vS p l.length),(3,vI (i : Int)),(7,vB true)] fun _ => ?_
  have h1' := Int.ofNat_lt.1 h1
  have ⟨b1,o1,k1,x,hpe,hx,hm1,hc1,hb1⟩ := hR.atB h1'
  refine cxs ?_
  refine ⟨_,op_idx (j := (i : Int)) (n := l.length) (q := ⟨b1,o1,none⟩) rfl (congrArg (fun u => vS u l.length) hpe) rfl rfl rfl (Int.natCast_nonneg _) h1,?_⟩
  refine ⟨_,rfl,?_⟩
  refine ⟨_,op_ldc (i := 0) rfl rfl rfl rfl hm1 hc1 rfl rfl,?_⟩
  refine ⟨_,rfl,(ac_spec_l3Node x.id st).mono ?_⟩
  rintro _ st ⟨c,rfl,h2,rfl⟩
  rcases c with _|_
  ·replace h2 := of_decide_eq_false h2.symm
   iterate 3 refine ⟨_,rfl,?_⟩
   refine Cu lo0 st [(0,vS p l.length),(3,vI (i : Int)),(7,vB true),(43,vB true)] fun _ => ?_
   exact cxs (Rt ⟨false,rfl,⟨fun h => absurd h Bool.false_ne_true,fun h => absurd (h i x hx).1 h2⟩,rfl⟩)
  ·replace h2 := of_decide_eq_true h2.symm
   iterate 2 refine ⟨_,rfl,?_⟩
   rintro (_|_) h3
   ·replace h3 : ¬ (0 < (i : Int)) := of_decide_eq_false h3
    iterate 2 refine ⟨_,rfl,?_⟩
    refine ⟨_,op_idx (j := (i : Int)) (n := l.length) (q := ⟨b1,o1,none⟩) rfl (congrArg (fun u => vS u l.length) hpe) rfl rfl rfl (Int.natCast_nonneg _) h1,?_⟩
    refine ⟨_,rfl,?_⟩
    refine ⟨_,op_ldc (i := 1) rfl rfl rfl rfl hm1 hc1 rfl rfl,?_⟩
    refine ⟨_,rfl,(ac_spec_l1In x.inc 1 1000 st).mono ?_⟩
    rintro _ st ⟨d,rfl,h5,rfl⟩
    rcases d with _|_
    ·replace h5 := of_decide_eq_false h5.symm
     iterate 2 refine ⟨_,rfl,?_⟩
     refine Cu lo0 st [(0,vS p l.length),(3,vI (i : Int)),(7,vB true),(43,vB true)] fun _ => ?_
     exact cxs (Rt ⟨false,rfl,⟨fun h => absurd h Bool.false_ne_true,fun h => absurd (h i x hx).2.1 h5⟩,rfl⟩)
    ·replace h5 := of_decide_eq_true h5.symm
     iterate 2 refine ⟨_,rfl,?_⟩
     refine Cu lo0 st [(0,vS p l.length),(3,vI (i : Int)),(7,vB true),(43,vB false)] fun _ => ?_
     refine cxs ?_
     have e9 : IntKind.wrap .i64 ((i : Int) + 1) = ((i + 1 : Nat) : Int) := (wrap_i64 (by omega) (by omega)).trans (by omega)
     refine ⟨_,rfl,?_⟩
     refine ⟨i + 1,l.length - (i + 1),by omega,⟨rfl,congrArg (Value.int .i64) e9,trivial⟩,rfl,rfl,h1',fun j u hj hu => ?_,rfl⟩
     rcases Nat.lt_or_ge j i with h | h
     ·exact hok j u h hu
     ·obtain rfl : j = i := by omega
      rw [hx] at hu
      injection hu with hu
      subst hu
      exact ⟨h2,h5,fun y h0 hy => absurd h0 (by omega)⟩
   ·replace h3 : 0 < (i : Int) := of_decide_eq_true h3
    have ⟨b2,o2,k2,y,hqe,hy,hm2,hc2,hb2⟩ := hR.atB (j := i - 1) (by omega)
    have e28 : IntKind.wrap .i64 ((i : Int) - 1) = ((i - 1 : Nat) : Int) := (wrap_i64 (by omega) (by omega)).trans (by omega)
    refine ⟨_,op_idx (j := (i : Int)) (n := l.length) (q := ⟨b1,o1,none⟩) rfl (congrArg (fun u => vS u l.length) hpe) rfl rfl rfl (Int.natCast_nonneg _) h1,?_⟩
    refine ⟨_,rfl,?_⟩
    refine ⟨_,op_ldc (i := 0) rfl rfl rfl rfl hm1 hc1 rfl rfl,?_⟩
    refine ⟨_,rfl,?_⟩
    refine ⟨_,op_idx (j := ((i - 1 : Nat) : Int)) (n := l.length) (q := ⟨b2,o2,none⟩) rfl (congrArg (fun u => vS u l.length) hqe) (congrArg (Value.int .i64) e28) rfl rfl (Int.natCast_nonneg _) (by omega),?_⟩
    refine ⟨_,rfl,?_⟩
    refine ⟨_,op_ldc (i := 0) rfl rfl rfl rfl hm2 hc2 rfl rfl,?_⟩
    refine ⟨_,rfl,?_⟩
    rintro (_|_) h4
    ·replace h4 : ¬ (x.id ≤ y.id) := of_decide_eq_false h4
     iterate 2 refine ⟨_,rfl,?_⟩
     refine ⟨_,op_idx (j := (i : Int)) (n := l.length) (q := ⟨b1,o1,none⟩) rfl (congrArg (fun u => vS u l.length) hpe) rfl rfl rfl (Int.natCast_nonneg _) h1,?_⟩
     refine ⟨_,rfl,?_⟩
     refine ⟨_,op_ldc (i := 1) rfl rfl rfl rfl hm1 hc1 rfl rfl,?_⟩
     refine ⟨_,rfl,(ac_spec_l1In x.inc 1 1000 st).mono ?_⟩
     rintro _ st ⟨d,rfl,h5,rfl⟩
     rcases d with _|_
     ·replace h5 := of_decide_eq_false h5.symm
      iterate 2 refine ⟨_,rfl,?_⟩
      refine Cu lo0 st [(0,vS p l.length),(3,vI (i : Int)),(7,vB true),(43,vB true)] fun _ => ?_
      exact cxs (Rt ⟨false,rfl,⟨fun h => absurd h Bool.false_ne_true,fun h => absurd (h i x hx).2.1 h5⟩,rfl⟩)
     ·replace h5 := of_decide_eq_true h5.symm
      iterate 2 refine ⟨_,rfl,?_⟩
      refine Cu lo0 st [(0,vS p l.length),(3,vI (i : Int)),(7,vB true),(43,vB false)] fun _ => ?_
      refine cxs ?_
      have e9 : IntKind.wrap .i64 ((i : Int) + 1) = ((i + 1 : Nat) : Int) := (wrap_i64 (by omega) (by omega)).trans (by omega)
      refine ⟨_,rfl,?_⟩
      refine ⟨i + 1,l.length - (i + 1),by omega,⟨rfl,congrArg (Value.int .i64) e9,trivial⟩,rfl,rfl,h1',fun j u hj hu => ?_,rfl⟩
      rcases Nat.lt_or_ge j i with h | h
      ·exact hok j u h hu
      ·obtain rfl : j = i := by omega
       rw [hx] at hu
       injection hu with hu
       subst hu
       refine ⟨h2,h5,fun z h0 hz => ?_⟩
       rw [hy] at hz
       injection hz with hz
       subst hz
       exact Int.not_le.1 h4
    ·replace h4 : x.id ≤ y.id := of_decide_eq_true h4
     iterate 3 refine ⟨_,rfl,?_⟩
     refine Cu lo0 st [(0,vS p l.length),(3,vI (i : Int)),(7,vB true),(43,vB true)] fun _ => ?_
     exact cxs (Rt ⟨false,rfl,⟨fun h => absurd h Bool.false_ne_true,fun h => absurd ((h i x hx).2.2 y (by omega) hy) (Int.not_lt.2 h4)⟩,rfl⟩)
theorem ac_impl_MarksOk (p : Option Addr) (l : List Flr) (st : St) (hR : Rows st 2 cFlr p l) (hs : szOk l.length) : C 97 [vS p l.length] st (fun v s => ∃ x,v = .bool x ∧ (x = true ↔ marksOk l) ∧ s = st) := by
 have hs : l.length ≤ 1048576 := hs
 refine AC.enterX (i := ⟨[4],[4,12,17,32],[0,2,3,4,5,6,7,8,36],[]⟩) [(4,[],[])] Tryz.func97 rfl rfl (by kernel_rfl) (by kernel_rfl) Tryz.ntmps97 (Lb rfl) rfl ?_
 refine Cm 0 st [(0,vS p l.length),(2,vB false)] [] fun _ _ => ?_
 refine ⟨_,rfl,?_⟩
 refine Cm 0 st [(0,vS p l.length),(2,vB false),(5,vS p l.length),(6,vI (l.length)),(7,vI 0)] [] fun _ _ => ?_
 refine AW.loopM (fun i : Nat => [(0,vS p l.length),(5,vS p l.length),(6,vI (l.length : Int)),(7,vI (i : Int))]) (fun i : Nat => []) (fun m (i : Nat) st' => m = l.length - i ∧ i ≤ l.length ∧ (∀ (j : Nat) x,j < i → l[j]? = some x → markOk l j x) ∧ st = st') 0 _ ⟨rfl,rfl,rfl,rfl,trivial⟩ trivial ⟨rfl,Nat.zero_le _,fun j x h => absurd h (Nat.not_lt_zero _),rfl⟩ ?_
 rintro m i ρ0 ff gg st' ⟨rfl,hi,hok,rfl⟩
 refine ⟨_,rfl,?_⟩
 rintro (_|_) h1
 ·replace h1 : ¬ ((i : Int) < (l.length : Int)) := of_decide_eq_false h1
  refine Cm gg st [(0,vS p l.length),(5,vS p l.length),(6,vI (l.length : Int)),(7,vI (i : Int)),(8,vB false)] [] fun _ _ => ?_
  refine cxs ?_
  exact cxs (Rt ⟨true,rfl,⟨fun _ j x hx => hok j x (by have := (List.getElem?_eq_some_iff.1 hx).1; omega) hx,fun _ => rfl⟩,rfl⟩)
 ·replace h1 : (i : Int) < (l.length : Int) := of_decide_eq_true h1
  refine Cm gg st [(0,vS p l.length),(5,vS p l.length),(6,vI (l.length : Int)),(7,vI (i : Int)),(8,vB true)] [] fun _ _ => ?_
  have h1' := Int.ofNat_lt.1 h1
  have ⟨b1,o1,k1,x,hpe,hx,hm1,hc1,hb1⟩ := hR.atB h1'
  refine cxs ?_
  refine ⟨_,op_idx (j := (i : Int)) (n := l.length) (q := ⟨b1,o1,none⟩) rfl (congrArg (fun u => vS u l.length) hpe) rfl rfl rfl (Int.natCast_nonneg _) h1,?_⟩
  refine ⟨_,op_lda rfl rfl rfl rfl rfl hm1 hc1 rfl,?_⟩
  refine ⟨_,rfl,?_⟩
  refine ⟨_,Os rfl,?_⟩
  refine Cm (gg + 1) st [(0,vS p l.length),(3,vI (i : Int)),Ml 4 gg,(5,vS p l.length),(6,vI (l.length : Int)),(7,vI (i : Int)),(8,vB true)] [(4,gg,[vI x.id,vI x.inc])] fun _ _ => ?_
  refine ⟨_,rfl,?_⟩
  refine ⟨_,Od rfl,?_⟩
  refine ⟨_,rfl,(ac_impl_isNode x.id st).mono ?_⟩
  rintro _ st ⟨c,rfl,h2,rfl⟩
  rcases c with _|_
  ·replace h2 := of_decide_eq_false h2.symm
   iterate 3 refine ⟨_,rfl,?_⟩
   refine Cm (gg + 1) st [(0,vS p l.length),(3,vI (i : Int)),Ml 4 gg,(5,vS p l.length),(6,vI (l.length : Int)),(7,vI (i : Int)),(8,vB true),(36,vB true)] [(4,gg,[vI x.id,vI x.inc])] fun _ _ => ?_
   exact cxs (Rt ⟨false,rfl,⟨fun h => absurd h Bool.false_ne_true,fun h => absurd (h i x hx).1 h2⟩,rfl⟩)
  ·replace h2 := of_decide_eq_true h2.symm
   iterate 2 refine ⟨_,rfl,?_⟩
   refine ⟨_,Od rfl,?_⟩
   refine ⟨_,rfl,(ac_impl_within x.inc 1 1000 st).mono ?_⟩
   rintro _ st ⟨d,rfl,h5,rfl⟩
   rcases d with _|_
   ·replace h5 := of_decide_eq_false h5.symm
    iterate 3 refine ⟨_,rfl,?_⟩
    refine Cm (gg + 1) st [(0,vS p l.length),(3,vI (i : Int)),Ml 4 gg,(5,vS p l.length),(6,vI (l.length : Int)),(7,vI (i : Int)),(8,vB true),(36,vB true)] [(4,gg,[vI x.id,vI x.inc])] fun _ _ => ?_
    exact cxs (Rt ⟨false,rfl,⟨fun h => absurd h Bool.false_ne_true,fun h => absurd (h i x hx).2.1 h5⟩,rfl⟩)
   ·replace h5 := of_decide_eq_true h5.symm
    iterate 3 refine ⟨_,rfl,?_⟩
    rintro (_|_) h3
    ·replace h3 : ¬ (0 < (i : Int)) := of_decide_eq_false h3
     iterate 2 refine ⟨_,rfl,?_⟩
     refine Cm (gg + 1) st [(0,vS p l.length),(3,vI (i : Int)),Ml 4 gg,(5,vS p l.length),(6,vI (l.length : Int)),(7,vI (i : Int)),(8,vB true),(36,vB false)] [(4,gg,[vI x.id,vI x.inc])] fun _ _ => ?_
     refine cxs ?_
     have e37 : IntKind.wrap .i64 ((i : Int) + 1) = ((i + 1 : Nat) : Int) := (wrap_i64 (by omega) (by omega)).trans (by omega)
     refine ⟨_,rfl,?_⟩
     refine ⟨i + 1,l.length - (i + 1),by omega,⟨rfl,rfl,rfl,congrArg (Value.int .i64) e37,trivial⟩,trivial,rfl,h1',fun j u hj hu => ?_,rfl⟩
     rcases Nat.lt_or_ge j i with h | h
     ·exact hok j u h hu
     ·obtain rfl : j = i := by omega
      rw [hx] at hu
      injection hu with hu
      subst hu
      exact ⟨h2,h5,fun y h0 hy => absurd h0 (by omega)⟩
    ·replace h3 : 0 < (i : Int) := of_decide_eq_true h3
     have ⟨b2,o2,k2,y,hqe,hy,hm2,hc2,hb2⟩ := hR.atB (j := i - 1) (by omega)
     have e28 : IntKind.wrap .i64 ((i : Int) - 1) = ((i - 1 : Nat) : Int) := (wrap_i64 (by omega) (by omega)).trans (by omega)
     refine ⟨_,rfl,?_⟩
     refine ⟨_,op_idx (j := ((i - 1 : Nat) : Int)) (n := l.length) (q := ⟨b2,o2,none⟩) rfl (congrArg (fun u => vS u l.length) hqe) (congrArg (Value.int .i64) e28) rfl rfl (Int.natCast_nonneg _) (by omega),?_⟩
     refine ⟨_,rfl,?_⟩
     refine ⟨_,op_ldc (i := 0) rfl rfl rfl rfl hm2 hc2 rfl rfl,?_⟩
     refine ⟨_,rfl,?_⟩
     refine ⟨_,Od rfl,?_⟩
     refine ⟨_,rfl,?_⟩
     rintro (_|_) h4
     ·replace h4 : ¬ (x.id ≤ y.id) := of_decide_eq_false h4
      iterate 2 refine ⟨_,rfl,?_⟩
      refine Cm (gg + 1) st [(0,vS p l.length),(3,vI (i : Int)),Ml 4 gg,(5,vS p l.length),(6,vI (l.length : Int)),(7,vI (i : Int)),(8,vB true),(36,vB false)] [(4,gg,[vI x.id,vI x.inc])] fun _ _ => ?_
      refine cxs ?_
      have e37 : IntKind.wrap .i64 ((i : Int) + 1) = ((i + 1 : Nat) : Int) := (wrap_i64 (by omega) (by omega)).trans (by omega)
      refine ⟨_,rfl,?_⟩
      refine ⟨i + 1,l.length - (i + 1),by omega,⟨rfl,rfl,rfl,congrArg (Value.int .i64) e37,trivial⟩,trivial,rfl,h1',fun j u hj hu => ?_,rfl⟩
      rcases Nat.lt_or_ge j i with h | h
      ·exact hok j u h hu
      ·obtain rfl : j = i := by omega
       rw [hx] at hu
       injection hu with hu
       subst hu
       refine ⟨h2,h5,fun z h0 hz => ?_⟩
       rw [hy] at hz
       injection hz with hz
       subst hz
       exact Int.not_le.1 h4
     ·replace h4 : x.id ≤ y.id := of_decide_eq_true h4
      iterate 2 refine ⟨_,rfl,?_⟩
      refine Cm (gg + 1) st [(0,vS p l.length),(3,vI (i : Int)),Ml 4 gg,(5,vS p l.length),(6,vI (l.length : Int)),(7,vI (i : Int)),(8,vB true),(36,vB true)] [(4,gg,[vI x.id,vI x.inc])] fun _ _ => ?_
      exact cxs (Rt ⟨false,rfl,⟨fun h => absurd h Bool.false_ne_true,fun h => absurd ((h i x hx).2.2 y (by omega) hy) (Int.not_lt.2 h4)⟩,rfl⟩)
theorem split_at' {α : Type} {l : List α} {i : Nat} {x : α} (h : l[i]? = some x) : l = l.take i ++ x :: l.drop (i + 1) ∧ l.take (i + 1) = l.take i ++ [x] ∧ l.drop i = x :: l.drop (i + 1) := by
 obtain ⟨hi,hx⟩ := List.getElem?_eq_some_iff.1 h
 have h3 : l.drop i = x :: l.drop (i + 1) := by rw [List.drop_eq_getElem_cons hi,hx]
 refine ⟨?_,?_,h3⟩
 ·rw [← h3,List.take_append_drop]
 ·rw [List.take_add_one,h]; rfl
def RdS (st : St) (s : SV) : Prop := Rows st 6 cItm s.p s.x.items ∧ Rows st 2 cFlr s.q s.x.floors
abbrev pcS (s : SV) : List Pc := [pcR 6 cItm s.p s.x.items,pcR 2 cFlr s.q s.x.floors]
theorem RdS.pres {st st' : St} {s : SV} (h : RdS st s) (k : Pres st st') : RdS st' s := ⟨k.rows h.1,k.rows h.2⟩
theorem OwnP.items {st : St} {s : SV} (h : OwnP st (pcS s)) : OwnR st 6 cItm s.p s.x.items := pc_own (by decide) len_cItm (h.1 _ (List.mem_cons_self ..))
theorem OwnP.floors {st : St} {s : SV} (h : OwnP st (pcS s)) : OwnR st 2 cFlr s.q s.x.floors := pc_own (by decide) len_cFlr (h.1 _ (List.mem_cons_of_mem _ (List.mem_cons_self ..)))
theorem OwnP.rdS {st : St} {s : SV} (h : OwnP st (pcS s)) : RdS st s := ⟨h.items.rows len_cItm,h.floors.rows len_cFlr⟩
def bigS (s : Sta) : Prop := szOk s.items.length ∧ szOk s.floors.length ∧ ∀ x ∈ s.items,szOk x.e.data.size
def entOk (e : Ent) : Prop := (1 ≤ e.inc ∧ e.inc ≤ 1000) ∧ (0 ≤ e.rank ∧ e.rank ≤ 1) ∧ (0 ≤ e.beat ∧ e.beat ≤ 100000) ∧ (0 ≤ e.ver ∧ e.ver ≤ 1000) ∧ e.data.size ≤ 8
theorem ac_spec_EntryOk (e : Ent) (st : St) : C 58 [.agg #[vI e.inc,vI e.rank,vI e.beat,vI e.ver,.string e.data]] st (fun v s => ∃ x,v = .bool x ∧ (x = true ↔ entOk e) ∧ s = st) := by
 refine AC.enterX (i := ⟨[1],[1,3,7,12,17,22],[0,1,2],[]⟩) [] Tryz.func58 rfl rfl (by kernel_rfl) (by kernel_rfl) Tryz.ntmps58 (Lb rfl) rfl ?_
 refine ⟨_,rfl,?_⟩
 refine Cm 1 st [Ml 1 0,(2,vB false)] [(1,0,[vI e.inc,vI e.rank,vI e.beat,vI e.ver,.string e.data])] fun _ _ => ?_
 iterate 2 refine ⟨_,rfl,?_⟩
 refine ⟨_,rfl,(ac_spec_l1In e.inc 1 1000 st).mono ?_⟩
 rintro _ st ⟨a,rfl,h1,rfl⟩
 rcases a with _|_
 ·replace h1 := of_decide_eq_false h1.symm
  iterate 4 refine ⟨_,rfl,?_⟩
  exact cxs (Rt ⟨false,rfl,⟨fun h => absurd h Bool.false_ne_true,fun h => absurd h.1 h1⟩,rfl⟩)
 ·replace h1 := of_decide_eq_true h1.symm
  iterate 2 refine ⟨_,rfl,?_⟩
  refine ⟨_,rfl,(ac_spec_l1In e.rank 0 1 st).mono ?_⟩
  rintro _ st ⟨b,rfl,h2,rfl⟩
  rcases b with _|_
  ·replace h2 := of_decide_eq_false h2.symm
   iterate 4 refine ⟨_,rfl,?_⟩
   exact cxs (Rt ⟨false,rfl,⟨fun h => absurd h Bool.false_ne_true,fun h => absurd h.2.1 h2⟩,rfl⟩)
  ·replace h2 := of_decide_eq_true h2.symm
   iterate 3 refine ⟨_,rfl,?_⟩
   refine ⟨_,rfl,(ac_spec_l1In e.beat 0 100000 st).mono ?_⟩
   rintro _ st ⟨c,rfl,h3,rfl⟩
   rcases c with _|_
   ·replace h3 := of_decide_eq_false h3.symm
    iterate 3 refine ⟨_,rfl,?_⟩
    exact cxs (Rt ⟨false,rfl,⟨fun h => absurd h Bool.false_ne_true,fun h => absurd h.2.2.1 h3⟩,rfl⟩)
   ·replace h3 := of_decide_eq_true h3.symm
    iterate 3 refine ⟨_,rfl,?_⟩
    refine ⟨_,rfl,(ac_spec_l1In e.ver 0 1000 st).mono ?_⟩
    rintro _ st ⟨d,rfl,h4,rfl⟩
    rcases d with _|_
    ·replace h4 := of_decide_eq_false h4.symm
     iterate 2 refine ⟨_,rfl,?_⟩
     exact cxs (Rt ⟨false,rfl,⟨fun h => absurd h Bool.false_ne_true,fun h => absurd h.2.2.2.1 h4⟩,rfl⟩)
    ·replace h4 := of_decide_eq_true h4.symm
     iterate 5 refine ⟨_,rfl,?_⟩
     rintro (_|_) h5
     ·replace h5 : ¬ ((e.data.size : Int) ≤ 8) := of_decide_eq_false h5
      refine ⟨_,rfl,?_⟩
      exact cxs (Rt ⟨false,rfl,⟨fun h => absurd h Bool.false_ne_true,fun h => absurd h.2.2.2.2 (by omega)⟩,rfl⟩)
     ·replace h5 : (e.data.size : Int) ≤ 8 := of_decide_eq_true h5
      refine ⟨_,rfl,?_⟩
      exact cxs (Rt ⟨true,rfl,⟨fun _ => ⟨h1,h2,h3,h4,by omega⟩,fun _ => rfl⟩,rfl⟩)
theorem ac_impl_EntryOk (e : Ent) (st : St) : C 84 [.agg #[vI e.inc,vI e.rank,vI e.beat,vI e.ver,.string e.data]] st (fun v s => ∃ x,v = .bool x ∧ (x = true ↔ entOk e) ∧ s = st) := by
 refine AC.enterX (i := ⟨[1],[1,3,7,12,17,22],[0,1,2],[]⟩) [] Tryz.func84 rfl rfl (by kernel_rfl) (by kernel_rfl) Tryz.ntmps84 (Lb rfl) rfl ?_
 refine ⟨_,rfl,?_⟩
 refine Cm 1 st [Ml 1 0,(2,vB false)] [(1,0,[vI e.inc,vI e.rank,vI e.beat,vI e.ver,.string e.data])] fun _ _ => ?_
 iterate 2 refine ⟨_,rfl,?_⟩
 refine ⟨_,rfl,(ac_impl_within e.inc 1 1000 st).mono ?_⟩
 rintro _ st ⟨a,rfl,h1,rfl⟩
 rcases a with _|_
 ·replace h1 := of_decide_eq_false h1.symm
  iterate 4 refine ⟨_,rfl,?_⟩
  exact cxs (Rt ⟨false,rfl,⟨fun h => absurd h Bool.false_ne_true,fun h => absurd h.1 h1⟩,rfl⟩)
 ·replace h1 := of_decide_eq_true h1.symm
  iterate 2 refine ⟨_,rfl,?_⟩
  refine ⟨_,rfl,(ac_impl_within e.rank 0 1 st).mono ?_⟩
  rintro _ st ⟨b,rfl,h2,rfl⟩
  rcases b with _|_
  ·replace h2 := of_decide_eq_false h2.symm
   iterate 4 refine ⟨_,rfl,?_⟩
   exact cxs (Rt ⟨false,rfl,⟨fun h => absurd h Bool.false_ne_true,fun h => absurd h.2.1 h2⟩,rfl⟩)
  ·replace h2 := of_decide_eq_true h2.symm
   iterate 3 refine ⟨_,rfl,?_⟩
   refine ⟨_,rfl,(ac_impl_within e.beat 0 100000 st).mono ?_⟩
   rintro _ st ⟨c,rfl,h3,rfl⟩
   rcases c with _|_
   ·replace h3 := of_decide_eq_false h3.symm
    iterate 3 refine ⟨_,rfl,?_⟩
    exact cxs (Rt ⟨false,rfl,⟨fun h => absurd h Bool.false_ne_true,fun h => absurd h.2.2.1 h3⟩,rfl⟩)
   ·replace h3 := of_decide_eq_true h3.symm
    iterate 3 refine ⟨_,rfl,?_⟩
    refine ⟨_,rfl,(ac_impl_within e.ver 0 1000 st).mono ?_⟩
    rintro _ st ⟨d,rfl,h4,rfl⟩
    rcases d with _|_
    ·replace h4 := of_decide_eq_false h4.symm
     iterate 2 refine ⟨_,rfl,?_⟩
     exact cxs (Rt ⟨false,rfl,⟨fun h => absurd h Bool.false_ne_true,fun h => absurd h.2.2.2.1 h4⟩,rfl⟩)
    ·replace h4 := of_decide_eq_true h4.symm
     iterate 5 refine ⟨_,rfl,?_⟩
     rintro (_|_) h5
     ·replace h5 : ¬ ((e.data.size : Int) ≤ 8) := of_decide_eq_false h5
      refine ⟨_,rfl,?_⟩
      exact cxs (Rt ⟨false,rfl,⟨fun h => absurd h Bool.false_ne_true,fun h => absurd h.2.2.2.2 (by omega)⟩,rfl⟩)
     ·replace h5 : (e.data.size : Int) ≤ 8 := of_decide_eq_true h5
      refine ⟨_,rfl,?_⟩
      exact cxs (Rt ⟨true,rfl,⟨fun _ => ⟨h1,h2,h3,h4,by omega⟩,fun _ => rfl⟩,rfl⟩)
def floorOf : List Flr → Int → Int
 | [],_ => 0
 | f :: l,id => if f.id = id then f.inc else floorOf l id
theorem ac_spec_FloorOf (s : SV) (id : Int) (st : St) (hR : RdS st s) (hb : bigS s.x) : C 59 [.agg #[vS s.p s.x.items.length,vS s.q s.x.floors.length],vI id] st (fun v s' => v = vI (floorOf s.x.floors id) ∧ s' = st) := by
 have hs : s.x.floors.length ≤ 1048576 := hb.2.1
 refine AC.enterX (i := ⟨[2],[2,7,13,21],[0,1,2,4,5,10,20],[]⟩) [] Tryz.func59 rfl rfl (by kernel_rfl) (by kernel_rfl) Tryz.ntmps59 (Lb rfl) rfl ?_
 refine ⟨_,rfl,?_⟩
 refine cxs ?_
 refine Cm 1 st [(1,vI id),Ml 2 0,(4,vI 0),(5,vI 0)] [(2,0,cSV s)] fun _ _ => ?_
 refine AW.loopM (fun i : Nat => [(1,vI id),(2,vL 2 0 (0)),(5,vI (i : Int))]) (fun i : Nat => [(2,0,[vS s.p s.x.items.length,vS s.q s.x.floors.length])]) (fun m (i : Nat) st' => m = s.x.floors.length - i ∧ i ≤ s.x.floors.length ∧ floorOf s.x.floors id = floorOf (s.x.floors.drop i) id ∧ st = st') 0 _ ⟨rfl,rfl,rfl,trivial⟩ ⟨rfl,trivial⟩ ⟨rfl,Nat.zero_le _,rfl,rfl⟩ ?_
 rintro m i ρ0 ff gg st' ⟨rfl,hi,hf,rfl⟩
 refine ⟨_,rfl,?_⟩
 refine ⟨_,Od rfl,?_⟩
 iterate 2 refine ⟨_,rfl,?_⟩
 rintro (_|_) h1
 ·replace h1 : ¬ ((i : Int) < (s.x.floors.length : Int)) := of_decide_eq_false h1
  refine Cm gg st [(1,vI id),Ml 2 0,(5,vI (i : Int)),(10,vB false)] [(2,0,cSV s)] fun _ _ => ?_
  refine cxs ?_
  refine cxs ?_
  have hil : i = s.x.floors.length := by omega
  exact Rt ⟨congrArg vI (by rw [hf,hil,List.drop_length]; rfl),rfl⟩
 ·replace h1 : (i : Int) < (s.x.floors.length : Int) := of_decide_eq_true h1
  refine Cm gg st [(1,vI id),Ml 2 0,(5,vI (i : Int)),(10,vB true)] [(2,0,cSV s)] fun _ _ => ?_
  have h1' := Int.ofNat_lt.1 h1
  have ⟨b1,o1,k1,x,hpe,hx,hm1,hc1,hb1⟩ := hR.2.atB h1'
  rw [(split_at' hx).2.2,floorOf] at hf
  refine cxs ?_
  refine ⟨_,rfl,?_⟩
  refine ⟨_,Od rfl,?_⟩
  refine ⟨_,op_idx (j := (i : Int)) (n := s.x.floors.length) (q := ⟨b1,o1,none⟩) rfl (congrArg (fun u => vS u s.x.floors.length) hpe) rfl rfl rfl (Int.natCast_nonneg _) h1,?_⟩
  refine ⟨_,rfl,?_⟩
  refine ⟨_,op_ldc (i := 0) rfl rfl rfl rfl hm1 hc1 rfl rfl,?_⟩
  refine ⟨_,rfl,?_⟩
  rintro (_|_) h2
  ·replace h2 : ¬ (x.id = id) := beq_eq_false_iff_ne.1 h2
   refine Cm gg st [(1,vI id),Ml 2 0,(5,vI (i : Int)),(10,vB true),(20,vB false)] [(2,0,cSV s)] fun _ _ => ?_
   refine cxs ?_
   have e12 : IntKind.wrap .i64 ((i : Int) + 1) = ((i + 1 : Nat) : Int) := (wrap_i64 (by omega) (by omega)).trans (by omega)
   refine ⟨_,rfl,?_⟩
   exact ⟨i + 1,s.x.floors.length - (i + 1),by omega,⟨rfl,rfl,congrArg (Value.int .i64) e12,trivial⟩,⟨rfl,trivial⟩,rfl,h1',by rw [hf,if_neg h2],rfl⟩
  ·replace h2 : x.id = id := beq_iff_eq.1 h2
   refine Cm gg st [(1,vI id),Ml 2 0,(5,vI (i : Int)),(10,vB true),(20,vB true)] [(2,0,cSV s)] fun _ _ => ?_
   refine ⟨_,rfl,?_⟩
   refine ⟨_,Od rfl,?_⟩
   refine ⟨_,op_idx (j := (i : Int)) (n := s.x.floors.length) (q := ⟨b1,o1,none⟩) rfl (congrArg (fun u => vS u s.x.floors.length) hpe) rfl rfl rfl (Int.natCast_nonneg _) h1,?_⟩
   refine ⟨_,rfl,?_⟩
   refine ⟨_,op_ldc (i := 1) rfl rfl rfl rfl hm1 hc1 rfl rfl,?_⟩
   exact cxs (Rt ⟨congrArg vI (by rw [hf,if_pos h2]),rfl⟩)
theorem ac_impl_FloorOf (s : SV) (id : Int) (st : St) (hR : RdS st s) (hb : bigS s.x) : C 85 [.agg #[vS s.p s.x.items.length,vS s.q s.x.floors.length],vI id] st (fun v s' => v = vI (floorOf s.x.floors id) ∧ s' = st) := by
 have hs : s.x.floors.length ≤ 1048576 := hb.2.1
 refine AC.enterX (i := ⟨[2,6],[2,6,7,14,18],[0,1,2,4,6,8,9,10,11,17],[]⟩) [] Tryz.func85 rfl rfl (by kernel_rfl) (by kernel_rfl) Tryz.ntmps85 (Lb rfl) rfl ?_
 refine ⟨_,rfl,?_⟩
 refine Cm 1 st [(1,vI id),Ml 2 0,(4,vI 0)] [(2,0,cSV s)] fun _ _ => ?_
 iterate 3 refine ⟨_,rfl,?_⟩
 refine Cm 1 st [(1,vI id),(4,vI 0),(8,vS s.q s.x.floors.length),(9,vI (s.x.floors.length)),(10,vI 0)] [] fun _ _ => ?_
 refine AW.loopM (fun i : Nat => [(1,vI id),(8,vS s.q s.x.floors.length),(9,vI (s.x.floors.length : Int)),(10,vI (i : Int))]) (fun i : Nat => []) (fun m (i : Nat) st' => m = s.x.floors.length - i ∧ i ≤ s.x.floors.length ∧ floorOf s.x.floors id = floorOf (s.x.floors.drop i) id ∧ st = st') 0 _ ⟨rfl,rfl,rfl,rfl,trivial⟩ trivial ⟨rfl,Nat.zero_le _,rfl,rfl⟩ ?_
 rintro m i ρ0 ff gg st' ⟨rfl,hi,hf,rfl⟩
 refine ⟨_,rfl,?_⟩
 rintro (_|_) h1
 ·replace h1 : ¬ ((i : Int) < (s.x.floors.length : Int)) := of_decide_eq_false h1
  refine Cm gg st [(1,vI id),(8,vS s.q s.x.floors.length),(9,vI (s.x.floors.length : Int)),(10,vI (i : Int)),(11,vB false)] [] fun _ _ => ?_
  refine cxs ?_
  refine cxs ?_
  have hil : i = s.x.floors.length := by omega
  exact Rt ⟨congrArg vI (by rw [hf,hil,List.drop_length]; rfl),rfl⟩
 ·replace h1 : (i : Int) < (s.x.floors.length : Int) := of_decide_eq_true h1
  refine Cm gg st [(1,vI id),(8,vS s.q s.x.floors.length),(9,vI (s.x.floors.length : Int)),(10,vI (i : Int)),(11,vB true)] [] fun _ _ => ?_
  have h1' := Int.ofNat_lt.1 h1
  have ⟨b1,o1,k1,x,hpe,hx,hm1,hc1,hb1⟩ := hR.2.atB h1'
  rw [(split_at' hx).2.2,floorOf] at hf
  refine cxs ?_
  refine ⟨_,op_idx (j := (i : Int)) (n := s.x.floors.length) (q := ⟨b1,o1,none⟩) rfl (congrArg (fun u => vS u s.x.floors.length) hpe) rfl rfl rfl (Int.natCast_nonneg _) h1,?_⟩
  refine ⟨_,op_lda rfl rfl rfl rfl rfl hm1 hc1 rfl,?_⟩
  refine ⟨_,rfl,?_⟩
  refine ⟨_,Os rfl,?_⟩
  refine Cm (gg + 1) st [(1,vI id),Ml 6 gg,(8,vS s.q s.x.floors.length),(9,vI (s.x.floors.length : Int)),(10,vI (i : Int)),(11,vB true)] [(6,gg,[vI x.id,vI x.inc])] fun _ _ => ?_
  refine ⟨_,rfl,?_⟩
  refine ⟨_,Od rfl,?_⟩
  refine ⟨_,rfl,?_⟩
  rintro (_|_) h2
  ·replace h2 : ¬ (x.id = id) := beq_eq_false_iff_ne.1 h2
   refine Cm (gg + 1) st [(1,vI id),Ml 6 gg,(8,vS s.q s.x.floors.length),(9,vI (s.x.floors.length : Int)),(10,vI (i : Int)),(11,vB true),(17,vB false)] [(6,gg,[vI x.id,vI x.inc])] fun _ _ => ?_
   refine cxs ?_
   have e20 : IntKind.wrap .i64 ((i : Int) + 1) = ((i + 1 : Nat) : Int) := (wrap_i64 (by omega) (by omega)).trans (by omega)
   refine ⟨_,rfl,?_⟩
   exact ⟨i + 1,s.x.floors.length - (i + 1),by omega,⟨rfl,rfl,rfl,congrArg (Value.int .i64) e20,trivial⟩,trivial,rfl,h1',by rw [hf,if_neg h2],rfl⟩
  ·replace h2 : x.id = id := beq_iff_eq.1 h2
   refine Cm (gg + 1) st [(1,vI id),Ml 6 gg,(8,vS s.q s.x.floors.length),(9,vI (s.x.floors.length : Int)),(10,vI (i : Int)),(11,vB true),(17,vB true)] [(6,gg,[vI x.id,vI x.inc])] fun _ _ => ?_
   refine ⟨_,rfl,?_⟩
   refine ⟨_,Od rfl,?_⟩
   exact cxs (Rt ⟨congrArg vI (by rw [hf,if_pos h2]),rfl⟩)
theorem pcS_nil {st : St} : OwnP st [pcR 6 cItm none [],pcR 2 cFlr none []] := ⟨fun c hc => by
 rcases List.mem_cons.1 hc with rfl | hc
 ·exact .inl ⟨rfl,rfl⟩
 ·rw [List.mem_singleton.1 hc]; exact .inl ⟨rfl,rfl⟩,List.pairwise_cons.2 ⟨fun c hc => Dis.none,List.pairwise_singleton _ _⟩⟩
def nilS : Sta := ⟨[],[]⟩
theorem bigS_nil : bigS nilS := ⟨Nat.zero_le _,Nat.zero_le _,fun x hx => by cases hx⟩
theorem newS_nil {n : Nat} : NewP n (pcS ⟨none,none,nilS⟩) := NewP.cons New.none (NewP.cons New.none NewP.nil)
def itemOk (s : Sta) (j : Nat) (x : Itm) : Prop := (0 ≤ x.id ∧ x.id ≤ 4) ∧ entOk x.e ∧ floorOf s.floors x.id < x.e.inc ∧ ∀ y,0 < j → s.items[j - 1]? = some y → y.id < x.id
def stateOk (s : Sta) : Prop := (∀ (j : Nat) x,s.items[j]? = some x → itemOk s j x) ∧ marksOk s.floors
theorem ac_spec_StateOk (s : SV) (st : St) (hR : RdS st s) (hb : bigS s.x) : C 14 [.agg #[vS s.p s.x.items.length,vS s.q s.x.floors.length]] st (fun v s' => ∃ x,v = .bool x ∧ (x = true ↔ stateOk s.x) ∧ s' = st) := by
 have hs1 : s.x.items.length ≤ 1048576 := hb.1
 have hs2 : s.x.floors.length ≤ 1048576 := hb.2.1
 refine AC.enterX (i := ⟨[1,4,6],[1,4,6,8,14,19,27,29,40,46,47,50,56,62,67,75,77,88],[0,1,2,3,4,5,6,11,54,59,92],[]⟩) [(5,[33],[29]),(11,[],[])] Tryz.func14 rfl rfl (by kernel_rfl) (by kernel_rfl) Tryz.ntmps14 (Lb rfl) rfl ?_
 refine ⟨_,rfl,?_⟩
 refine cxs ?_
 refine Cm 1 st [Ml 1 0,(2,vB false),(3,vI 0)] [(1,0,cSV s)] fun _ _ => ?_
 refine AW.loopM (fun i : Nat => [(1,vL 1 0 (0)),(3,vI (i : Int))]) (fun i : Nat => [(1,0,[vS s.p s.x.items.length,vS s.q s.x.floors.length])]) (fun m (i : Nat) st' => m = s.x.items.length - i ∧ i ≤ s.x.items.length ∧ (∀ (j : Nat) x,j < i → s.x.items[j]? = some x → itemOk s.x j x) ∧ st = st') 0 _ ⟨rfl,rfl,trivial⟩ ⟨rfl,trivial⟩ ⟨rfl,Nat.zero_le _,fun j x h => absurd h (Nat.not_lt_zero _),rfl⟩ ?_
 rintro m i ρ0 ff gg st' ⟨rfl,hi,hok,rfl⟩
 refine ⟨_,rfl,?_⟩
 refine ⟨_,Od rfl,?_⟩
 iterate 2 refine ⟨_,rfl,?_⟩
 rintro (_|_) h1
 ·replace h1 : ¬ ((i : Int) < (s.x.items.length : Int)) := of_decide_eq_false h1
  refine Cm gg st [Ml 1 0,(3,vI (i : Int)),(11,vB false)] [(1,0,cSV s)] fun _ _ => ?_
  refine cxs ?_
  refine Cm gg st [Ml 1 0,(5,vI 0)] [(1,0,cSV s)] fun _ _ => ?_
  refine AW.loopM (fun v : Nat => [(1,vL 1 0 (0)),(5,vI (v : Int))]) (fun v : Nat => [(1,0,[vS s.p s.x.items.length,vS s.q s.x.floors.length])]) (fun m (v : Nat) st' => m = s.x.floors.length - v ∧ v ≤ s.x.floors.length ∧ (∀ (j : Nat) x,j < v → s.x.floors[j]? = some x → markOk s.x.floors j x) ∧ st = st') 0 _ ⟨rfl,rfl,trivial⟩ ⟨rfl,trivial⟩ ⟨rfl,Nat.zero_le _,fun j x h => absurd h (Nat.not_lt_zero _),rfl⟩ ?_
  rintro m v ρ0 ff gg st' ⟨rfl,hi2,hok2,rfl⟩
  refine ⟨_,rfl,?_⟩
  refine ⟨_,Od rfl,?_⟩
  iterate 2 refine ⟨_,rfl,?_⟩
  rintro (_|_) h7
  ·replace h7 : ¬ ((v : Int) < (s.x.floors.length : Int)) := of_decide_eq_false h7
   refine Cm gg st [Ml 1 0,(5,vI (v : Int)),(59,vB false)] [(1,0,cSV s)] fun _ _ => ?_
   refine cxs ?_
   exact cxs (Rt ⟨true,rfl,⟨fun _ => ⟨fun j x hx => hok j x (by have := (List.getElem?_eq_some_iff.1 hx).1; omega) hx,fun j x hx => hok2 j x (by have := (List.getElem?_eq_some_iff.1 hx).1; omega) hx⟩,fun _ => rfl⟩,rfl⟩)
  ·replace h7 : (v : Int) < (s.x.floors.length : Int) := of_decide_eq_true h7
   refine Cm gg st [Ml 1 0,(5,vI (v : Int)),(59,vB true)] [(1,0,cSV s)] fun _ _ => ?_
   have h7' := Int.ofNat_lt.1 h7
   have ⟨b3,o3,k3,x,hpe,hx,hm1,hc1,hb1⟩ := hR.2.atB h7'
   refine cxs ?_
   refine ⟨_,rfl,?_⟩
   refine ⟨_,Od rfl,?_⟩
   refine ⟨_,op_idx (j := (v : Int)) (n := s.x.floors.length) (q := ⟨b3,o3,none⟩) rfl (congrArg (fun u => vS u s.x.floors.length) hpe) rfl rfl rfl (Int.natCast_nonneg _) h7,?_⟩
   refine ⟨_,op_lda rfl rfl rfl rfl rfl hm1 hc1 rfl,?_⟩
   refine ⟨_,rfl,?_⟩
   refine ⟨_,Os rfl,?_⟩
   refine Cm (gg + 1) st [Ml 1 0,(5,vI (v : Int)),Ml 6 gg,(59,vB true)] [(1,0,cSV s),(6,gg,[vI x.id,vI x.inc])] fun _ _ => ?_
   refine ⟨_,rfl,?_⟩
   refine ⟨_,Od rfl,?_⟩
   refine ⟨_,rfl,(ac_spec_l3Node x.id st).mono ?_⟩
   rintro _ st ⟨c,rfl,h8,rfl⟩
   rcases c with _|_
   ·replace h8 := of_decide_eq_false h8.symm
    iterate 3 refine ⟨_,rfl,?_⟩
    refine Cm (gg + 1) st [Ml 1 0,(5,vI (v : Int)),Ml 6 gg,(59,vB true),(92,vB true)] [(1,0,cSV s),(6,gg,[vI x.id,vI x.inc])] fun _ _ => ?_
    exact cxs (Rt ⟨false,rfl,⟨fun h => absurd h Bool.false_ne_true,fun h => absurd (h.2 v x hx).1 h8⟩,rfl⟩)
   ·replace h8 := of_decide_eq_true h8.symm
    iterate 2 refine ⟨_,rfl,?_⟩
    rintro (_|_) h9
    ·replace h9 : ¬ (0 < (v : Int)) := of_decide_eq_false h9
     iterate 3 refine ⟨_,rfl,?_⟩
     refine ⟨_,Od rfl,?_⟩
     refine ⟨_,rfl,(ac_spec_l1In x.inc 1 1000 st).mono ?_⟩
     rintro _ st ⟨d,rfl,h11,rfl⟩
     rcases d with _|_
     ·replace h11 := of_decide_eq_false h11.symm
      iterate 2 refine ⟨_,rfl,?_⟩
      refine Cm (gg + 1) st [Ml 1 0,(5,vI (v : Int)),Ml 6 gg,(59,vB true),(92,vB true)] [(1,0,cSV s),(6,gg,[vI x.id,vI x.inc])] fun _ _ => ?_
      exact cxs (Rt ⟨false,rfl,⟨fun h => absurd h Bool.false_ne_true,fun h => absurd (h.2 v x hx).2.1 h11⟩,rfl⟩)
     ·replace h11 := of_decide_eq_true h11.symm
      iterate 2 refine ⟨_,rfl,?_⟩
      refine Cm (gg + 1) st [Ml 1 0,(5,vI (v : Int)),Ml 6 gg,(59,vB true),(92,vB false)] [(1,0,cSV s),(6,gg,[vI x.id,vI x.inc])] fun _ _ => ?_
      refine cxs ?_
      have e61 : IntKind.wrap .i64 ((v : Int) + 1) = ((v + 1 : Nat) : Int) := (wrap_i64 (by omega) (by omega)).trans (by omega)
      refine ⟨_,rfl,?_⟩
      refine ⟨v + 1,s.x.floors.length - (v + 1),by omega,⟨rfl,congrArg (Value.int .i64) e61,trivial⟩,⟨rfl,trivial⟩,rfl,h7',fun j u hj hu => ?_,rfl⟩
      rcases Nat.lt_or_ge j v with h | h
      ·exact hok2 j u h hu
      ·obtain rfl : j = v := by omega
       rw [hx] at hu
       injection hu with hu
       subst hu
       exact ⟨h8,h11,fun y h0 hy => absurd h0 (by omega)⟩
    ·replace h9 : 0 < (v : Int) := of_decide_eq_true h9
     refine ⟨_,rfl,?_⟩
     refine ⟨_,Od rfl,?_⟩
     refine ⟨_,rfl,?_⟩
     refine ⟨_,Od rfl,?_⟩
     have ⟨b2,o2,k2,y,hqe,hy,hm2,hc2,hb2⟩ := hR.2.atB (j := v - 1) (by omega)
     have e80 : IntKind.wrap .i64 ((v : Int) - 1) = ((v - 1 : Nat) : Int) := (wrap_i64 (by omega) (by omega)).trans (by omega)
     refine ⟨_,rfl,?_⟩
     refine ⟨_,op_idx (j := ((v - 1 : Nat) : Int)) (n := s.x.floors.length) (q := ⟨b2,o2,none⟩) rfl (congrArg (fun u => vS u s.x.floors.length) hqe) (congrArg (Value.int .i64) e80) rfl rfl (Int.natCast_nonneg _) (by omega),?_⟩
     refine ⟨_,rfl,?_⟩
     refine ⟨_,op_ldc (i := 0) rfl rfl rfl rfl hm2 hc2 rfl rfl,?_⟩
     refine ⟨_,rfl,?_⟩
     rintro (_|_) h10
     ·replace h10 : ¬ (x.id ≤ y.id) := of_decide_eq_false h10
      iterate 3 refine ⟨_,rfl,?_⟩
      refine ⟨_,Od rfl,?_⟩
      refine ⟨_,rfl,(ac_spec_l1In x.inc 1 1000 st).mono ?_⟩
      rintro _ st ⟨d,rfl,h11,rfl⟩
      rcases d with _|_
      ·replace h11 := of_decide_eq_false h11.symm
       iterate 2 refine ⟨_,rfl,?_⟩
       refine Cm (gg + 1) st [Ml 1 0,(5,vI (v : Int)),Ml 6 gg,(59,vB true),(92,vB true)] [(1,0,cSV s),(6,gg,[vI x.id,vI x.inc])] fun _ _ => ?_
       exact cxs (Rt ⟨false,rfl,⟨fun h => absurd h Bool.false_ne_true,fun h => absurd (h.2 v x hx).2.1 h11⟩,rfl⟩)
      ·replace h11 := of_decide_eq_true h11.symm
       iterate 2 refine ⟨_,rfl,?_⟩
       refine Cm (gg + 1) st [Ml 1 0,(5,vI (v : Int)),Ml 6 gg,(59,vB true),(92,vB false)] [(1,0,cSV s),(6,gg,[vI x.id,vI x.inc])] fun _ _ => ?_
       refine cxs ?_
       have e61 : IntKind.wrap .i64 ((v : Int) + 1) = ((v + 1 : Nat) : Int) := (wrap_i64 (by omega) (by omega)).trans (by omega)
       refine ⟨_,rfl,?_⟩
       refine ⟨v + 1,s.x.floors.length - (v + 1),by omega,⟨rfl,congrArg (Value.int .i64) e61,trivial⟩,⟨rfl,trivial⟩,rfl,h7',fun j u hj hu => ?_,rfl⟩
       rcases Nat.lt_or_ge j v with h | h
       ·exact hok2 j u h hu
       ·obtain rfl : j = v := by omega
        rw [hx] at hu
        injection hu with hu
        subst hu
        refine ⟨h8,h11,fun z h0 hz => ?_⟩
        rw [hy] at hz
        injection hz with hz
        subst hz
        exact Int.not_le.1 h10
     ·replace h10 : x.id ≤ y.id := of_decide_eq_true h10
      iterate 3 refine ⟨_,rfl,?_⟩
      refine Cm (gg + 1) st [Ml 1 0,(5,vI (v : Int)),Ml 6 gg,(59,vB true),(92,vB true)] [(1,0,cSV s),(6,gg,[vI x.id,vI x.inc])] fun _ _ => ?_
      exact cxs (Rt ⟨false,rfl,⟨fun h => absurd h Bool.false_ne_true,fun h => absurd ((h.2 v x hx).2.2 y (by omega) hy) (Int.not_lt.2 h10)⟩,rfl⟩)
 ·replace h1 : (i : Int) < (s.x.items.length : Int) := of_decide_eq_true h1
  refine Cm gg st [Ml 1 0,(3,vI (i : Int)),(11,vB true)] [(1,0,cSV s)] fun _ _ => ?_
  have h1' := Int.ofNat_lt.1 h1
  have ⟨b1,o1,k1,x,hpe,hx,hm1,hc1,hb1⟩ := hR.1.atB h1'
  refine cxs ?_
  refine ⟨_,rfl,?_⟩
  refine ⟨_,Od rfl,?_⟩
  refine ⟨_,op_idx (j := (i : Int)) (n := s.x.items.length) (q := ⟨b1,o1,none⟩) rfl (congrArg (fun u => vS u s.x.items.length) hpe) rfl rfl rfl (Int.natCast_nonneg _) h1,?_⟩
  refine ⟨_,op_lda rfl rfl rfl rfl rfl hm1 hc1 rfl,?_⟩
  refine ⟨_,rfl,?_⟩
  refine ⟨_,Os rfl,?_⟩
  refine Cm (gg + 1) st [Ml 1 0,(3,vI (i : Int)),Ml 4 gg,(11,vB true)] [(1,0,cSV s),(4,gg,[vI x.id,vI x.e.inc,vI x.e.rank,vI x.e.beat,vI x.e.ver,.string x.e.data])] fun _ _ => ?_
  refine ⟨_,rfl,?_⟩
  refine ⟨_,Od rfl,?_⟩
  refine ⟨_,rfl,(ac_spec_l3Node x.id st).mono ?_⟩
  rintro _ st ⟨c,rfl,h2,rfl⟩
  rcases c with _|_
  ·replace h2 := of_decide_eq_false h2.symm
   iterate 4 refine ⟨_,rfl,?_⟩
   refine Cm (gg + 1) st [Ml 1 0,(3,vI (i : Int)),Ml 4 gg,(11,vB true),(54,vB true)] [(1,0,cSV s),(4,gg,[vI x.id,vI x.e.inc,vI x.e.rank,vI x.e.beat,vI x.e.ver,.string x.e.data])] fun _ _ => ?_
   exact cxs (Rt ⟨false,rfl,⟨fun h => absurd h Bool.false_ne_true,fun h => absurd (h.1 i x hx).1 h2⟩,rfl⟩)
  ·replace h2 := of_decide_eq_true h2.symm
   iterate 2 refine ⟨_,rfl,?_⟩
   rintro (_|_) h3
   ·replace h3 : ¬ (0 < (i : Int)) := of_decide_eq_false h3
    iterate 3 refine ⟨_,rfl,?_⟩
    refine ⟨_,Od rfl,?_⟩
    refine ⟨_,rfl,(ac_spec_EntryOk x.e st).mono ?_⟩
    rintro _ st ⟨d,rfl,h5,rfl⟩
    rcases d with _|_
    ·replace h5 := fun k => Bool.false_ne_true (h5.2 k)
     iterate 3 refine ⟨_,rfl,?_⟩
     refine Cm (gg + 1) st [Ml 1 0,(3,vI (i : Int)),Ml 4 gg,(11,vB true),(54,vB true)] [(1,0,cSV s),(4,gg,[vI x.id,vI x.e.inc,vI x.e.rank,vI x.e.beat,vI x.e.ver,.string x.e.data])] fun _ _ => ?_
     exact cxs (Rt ⟨false,rfl,⟨fun h => absurd h Bool.false_ne_true,fun h => absurd (h.1 i x hx).2.1 h5⟩,rfl⟩)
    ·replace h5 := h5.1 rfl
     iterate 4 refine ⟨_,rfl,?_⟩
     refine ⟨_,Od rfl,?_⟩
     refine ⟨ld_own rfl rfl rfl,?_⟩
     refine ⟨_,Od rfl,?_⟩
     refine ⟨_,rfl,?_⟩
     refine ⟨_,Od rfl,?_⟩
     refine ⟨_,rfl,(ac_spec_FloorOf s x.id st hR hb).mono ?_⟩
     rintro _ st ⟨rfl,rfl⟩
     refine ⟨fun _ _ => rfl,?_⟩
     refine ⟨_,rfl,?_⟩
     rintro (_|_) h6
     ·replace h6 : ¬ (x.e.inc ≤ floorOf s.x.floors x.id) := of_decide_eq_false h6
      refine ⟨_,rfl,?_⟩
      refine Cm (gg + 1) st [Ml 1 0,(3,vI (i : Int)),Ml 4 gg,(11,vB true),(54,vB false)] [(1,0,cSV s),(4,gg,[vI x.id,vI x.e.inc,vI x.e.rank,vI x.e.beat,vI x.e.ver,.string x.e.data])] fun _ _ => ?_
      refine cxs ?_
      have e13 : IntKind.wrap .i64 ((i : Int) + 1) = ((i + 1 : Nat) : Int) := (wrap_i64 (by omega) (by omega)).trans (by omega)
      refine ⟨_,rfl,?_⟩
      refine ⟨i + 1,s.x.items.length - (i + 1),by omega,⟨rfl,congrArg (Value.int .i64) e13,trivial⟩,⟨rfl,trivial⟩,rfl,h1',fun j u hj hu => ?_,rfl⟩
      rcases Nat.lt_or_ge j i with h | h
      ·exact hok j u h hu
      ·obtain rfl : j = i := by omega
       rw [hx] at hu
       injection hu with hu
       subst hu
       exact ⟨h2,h5,Int.not_le.1 h6,fun y h0 hy => absurd h0 (by omega)⟩
     ·replace h6 : x.e.inc ≤ floorOf s.x.floors x.id := of_decide_eq_true h6
      refine ⟨_,rfl,?_⟩
      refine Cm (gg + 1) st [Ml 1 0,(3,vI (i : Int)),Ml 4 gg,(11,vB true),(54,vB true)] [(1,0,cSV s),(4,gg,[vI x.id,vI x.e.inc,vI x.e.rank,vI x.e.beat,vI x.e.ver,.string x.e.data])] fun _ _ => ?_
      exact cxs (Rt ⟨false,rfl,⟨fun h => absurd h Bool.false_ne_true,fun h => absurd (h.1 i x hx).2.2.1 (Int.not_lt.2 h6)⟩,rfl⟩)
   ·replace h3 : 0 < (i : Int) := of_decide_eq_true h3
    refine ⟨_,rfl,?_⟩
    refine ⟨_,Od rfl,?_⟩
    refine ⟨_,rfl,?_⟩
    refine ⟨_,Od rfl,?_⟩
    have ⟨b2,o2,k2,y,hqe,hy,hm2,hc2,hb2⟩ := hR.1.atB (j := i - 1) (by omega)
    have e32 : IntKind.wrap .i64 ((i : Int) - 1) = ((i - 1 : Nat) : Int) := (wrap_i64 (by omega) (by omega)).trans (by omega)
    refine ⟨_,rfl,?_⟩
    refine ⟨_,op_idx (j := ((i - 1 : Nat) : Int)) (n := s.x.items.length) (q := ⟨b2,o2,none⟩) rfl (congrArg (fun u => vS u s.x.items.length) hqe) (congrArg (Value.int .i64) e32) rfl rfl (Int.natCast_nonneg _) (by omega),?_⟩
    refine ⟨_,rfl,?_⟩
    refine ⟨_,op_ldc (i := 0) rfl rfl rfl rfl hm2 hc2 rfl rfl,?_⟩
    refine ⟨_,rfl,?_⟩
    rintro (_|_) h4
    ·replace h4 : ¬ (x.id ≤ y.id) := of_decide_eq_false h4
     iterate 3 refine ⟨_,rfl,?_⟩
     refine ⟨_,Od rfl,?_⟩
     refine ⟨_,rfl,(ac_spec_EntryOk x.e st).mono ?_⟩
     rintro _ st ⟨d,rfl,h5,rfl⟩
     rcases d with _|_
     ·replace h5 := fun k => Bool.false_ne_true (h5.2 k)
      iterate 3 refine ⟨_,rfl,?_⟩
      refine Cm (gg + 1) st [Ml 1 0,(3,vI (i : Int)),Ml 4 gg,(11,vB true),(54,vB true)] [(1,0,cSV s),(4,gg,[vI x.id,vI x.e.inc,vI x.e.rank,vI x.e.beat,vI x.e.ver,.string x.e.data])] fun _ _ => ?_
      exact cxs (Rt ⟨false,rfl,⟨fun h => absurd h Bool.false_ne_true,fun h => absurd (h.1 i x hx).2.1 h5⟩,rfl⟩)
     ·replace h5 := h5.1 rfl
      iterate 4 refine ⟨_,rfl,?_⟩
      refine ⟨_,Od rfl,?_⟩
      refine ⟨ld_own rfl rfl rfl,?_⟩
      refine ⟨_,Od rfl,?_⟩
      refine ⟨_,rfl,?_⟩
      refine ⟨_,Od rfl,?_⟩
      refine ⟨_,rfl,(ac_spec_FloorOf s x.id st hR hb).mono ?_⟩
      rintro _ st ⟨rfl,rfl⟩
      refine ⟨fun _ _ => rfl,?_⟩
      refine ⟨_,rfl,?_⟩
      rintro (_|_) h6
      ·replace h6 : ¬ (x.e.inc ≤ floorOf s.x.floors x.id) := of_decide_eq_false h6
       refine ⟨_,rfl,?_⟩
       refine Cm (gg + 1) st [Ml 1 0,(3,vI (i : Int)),Ml 4 gg,(11,vB true),(54,vB false)] [(1,0,cSV s),(4,gg,[vI x.id,vI x.e.inc,vI x.e.rank,vI x.e.beat,vI x.e.ver,.string x.e.data])] fun _ _ => ?_
       refine cxs ?_
       have e13 : IntKind.wrap .i64 ((i : Int) + 1) = ((i + 1 : Nat) : Int) := (wrap_i64 (by omega) (by omega)).trans (by omega)
       refine ⟨_,rfl,?_⟩
       refine ⟨i + 1,s.x.items.length - (i + 1),by omega,⟨rfl,congrArg (Value.int .i64) e13,trivial⟩,⟨rfl,trivial⟩,rfl,h1',fun j u hj hu => ?_,rfl⟩
       rcases Nat.lt_or_ge j i with h | h
       ·exact hok j u h hu
       ·obtain rfl : j = i := by omega
        rw [hx] at hu
        injection hu with hu
        subst hu
        refine ⟨h2,h5,Int.not_le.1 h6,fun z h0 hz => ?_⟩
        rw [hy] at hz
        injection hz with hz
        subst hz
        exact Int.not_le.1 h4
      ·replace h6 : x.e.inc ≤ floorOf s.x.floors x.id := of_decide_eq_true h6
       refine ⟨_,rfl,?_⟩
       refine Cm (gg + 1) st [Ml 1 0,(3,vI (i : Int)),Ml 4 gg,(11,vB true),(54,vB true)] [(1,0,cSV s),(4,gg,[vI x.id,vI x.e.inc,vI x.e.rank,vI x.e.beat,vI x.e.ver,.string x.e.data])] fun _ _ => ?_
       exact cxs (Rt ⟨false,rfl,⟨fun h => absurd h Bool.false_ne_true,fun h => absurd (h.1 i x hx).2.2.1 (Int.not_lt.2 h6)⟩,rfl⟩)
    ·replace h4 : x.id ≤ y.id := of_decide_eq_true h4
     iterate 4 refine ⟨_,rfl,?_⟩
     refine Cm (gg + 1) st [Ml 1 0,(3,vI (i : Int)),Ml 4 gg,(11,vB true),(54,vB true)] [(1,0,cSV s),(4,gg,[vI x.id,vI x.e.inc,vI x.e.rank,vI x.e.beat,vI x.e.ver,.string x.e.data])] fun _ _ => ?_
     exact cxs (Rt ⟨false,rfl,⟨fun h => absurd h Bool.false_ne_true,fun h => absurd ((h.1 i x hx).2.2.2 y (by omega) hy) (Int.not_lt.2 h4)⟩,rfl⟩)
theorem ac_impl_StateOk (s : SV) (st : St) (hR : RdS st s) (hb : bigS s.x) : C 24 [.agg #[vS s.p s.x.items.length,vS s.q s.x.floors.length]] st (fun v s' => ∃ x,v = .bool x ∧ (x = true ↔ stateOk s.x) ∧ s' = st) := by
 have hs1 : s.x.items.length ≤ 1048576 := hb.1
 have hs2 : s.x.floors.length ≤ 1048576 := hb.2.1
 refine AC.enterX (i := ⟨[1,4,6],[1,4,6,7,15,20,29,36,42,50,55,61,62,65,74,81],[0,1,2,3,4,5,6,8,9,10,11,40,43,44,45,46,85],[]⟩) [(4,[],[]),(10,[17],[13])] Tryz.func24 rfl rfl (by kernel_rfl) (by kernel_rfl) Tryz.ntmps24 (Lb rfl) rfl ?_
 refine ⟨_,rfl,?_⟩
 refine Cm 1 st [Ml 1 0,(2,vB false)] [(1,0,cSV s)] fun _ _ => ?_
 iterate 3 refine ⟨_,rfl,?_⟩
 refine Cm 1 st [Ml 1 0,(2,vB false),(8,vS s.q s.x.floors.length),(9,vI (s.x.floors.length)),(10,vI 0)] [(1,0,cSV s)] fun _ _ => ?_
 refine AW.loopM (fun v : Nat => [(1,vL 1 0 (0)),(8,vS s.q s.x.floors.length),(9,vI (s.x.floors.length : Int)),(10,vI (v : Int))]) (fun v : Nat => [(1,0,[vS s.p s.x.items.length,vS s.q s.x.floors.length])]) (fun m (v : Nat) st' => m = s.x.floors.length - v ∧ v ≤ s.x.floors.length ∧ (∀ (j : Nat) x,j < v → s.x.floors[j]? = some x → markOk s.x.floors j x) ∧ st = st') 0 _ ⟨rfl,rfl,rfl,rfl,trivial⟩ ⟨rfl,trivial⟩ ⟨rfl,Nat.zero_le _,fun j x h => absurd h (Nat.not_lt_zero _),rfl⟩ ?_
 rintro m v ρ0 ff gg st' ⟨rfl,hi2,hok2,rfl⟩
 refine ⟨_,rfl,?_⟩
 rintro (_|_) h7
 ·replace h7 : ¬ ((v : Int) < (s.x.floors.length : Int)) := of_decide_eq_false h7
  refine Cm gg st [Ml 1 0,(8,vS s.q s.x.floors.length),(9,vI (s.x.floors.length : Int)),(10,vI (v : Int)),(11,vB false)] [(1,0,cSV s)] fun _ _ => ?_
  refine cxs ?_
  refine ⟨_,rfl,?_⟩
  refine ⟨_,Od rfl,?_⟩
  refine ⟨_,rfl,?_⟩
  refine Cm gg st [Ml 1 0,(43,vS s.p s.x.items.length),(44,vI (s.x.items.length)),(45,vI 0)] [(1,0,cSV s)] fun _ _ => ?_
  refine AW.loopM (fun i : Nat => [(1,vL 1 0 (0)),(43,vS s.p s.x.items.length),(44,vI (s.x.items.length : Int)),(45,vI (i : Int))]) (fun i : Nat => [(1,0,[vS s.p s.x.items.length,vS s.q s.x.floors.length])]) (fun m (i : Nat) st' => m = s.x.items.length - i ∧ i ≤ s.x.items.length ∧ (∀ (j : Nat) x,j < i → s.x.items[j]? = some x → itemOk s.x j x) ∧ st = st') 0 _ ⟨rfl,rfl,rfl,rfl,trivial⟩ ⟨rfl,trivial⟩ ⟨rfl,Nat.zero_le _,fun j x h => absurd h (Nat.not_lt_zero _),rfl⟩ ?_
  rintro m i ρ0 ff gg st' ⟨rfl,hi,hok,rfl⟩
  refine ⟨_,rfl,?_⟩
  rintro (_|_) h1
  ·replace h1 : ¬ ((i : Int) < (s.x.items.length : Int)) := of_decide_eq_false h1
   refine Cm gg st [Ml 1 0,(43,vS s.p s.x.items.length),(44,vI (s.x.items.length : Int)),(45,vI (i : Int)),(46,vB false)] [(1,0,cSV s)] fun _ _ => ?_
   refine cxs ?_
   exact cxs (Rt ⟨true,rfl,⟨fun _ => ⟨fun j x hx => hok j x (by have := (List.getElem?_eq_some_iff.1 hx).1; omega) hx,fun j x hx => hok2 j x (by have := (List.getElem?_eq_some_iff.1 hx).1; omega) hx⟩,fun _ => rfl⟩,rfl⟩)
  ·replace h1 : (i : Int) < (s.x.items.length : Int) := of_decide_eq_true h1
   refine Cm gg st [Ml 1 0,(43,vS s.p s.x.items.length),(44,vI (s.x.items.length : Int)),(45,vI (i : Int)),(46,vB true)] [(1,0,cSV s)] fun _ _ => ?_
   have h1' := Int.ofNat_lt.1 h1
   have ⟨b1,o1,k1,x,hpe,hx,hm1,hc1,hb1⟩ := hR.1.atB h1'
   refine cxs ?_
   refine ⟨_,op_idx (j := (i : Int)) (n := s.x.items.length) (q := ⟨b1,o1,none⟩) rfl (congrArg (fun u => vS u s.x.items.length) hpe) rfl rfl rfl (Int.natCast_nonneg _) h1,?_⟩
   refine ⟨_,op_lda rfl rfl rfl rfl rfl hm1 hc1 rfl,?_⟩
   refine ⟨_,rfl,?_⟩
   refine ⟨_,Os rfl,?_⟩
   refine Cm (gg + 1) st [Ml 1 0,(5,vI (i : Int)),Ml 6 gg,(43,vS s.p s.x.items.length),(44,vI (s.x.items.length : Int)),(45,vI (i : Int)),(46,vB true)] [(1,0,cSV s),(6,gg,[vI x.id,vI x.e.inc,vI x.e.rank,vI x.e.beat,vI x.e.ver,.string x.e.data])] fun _ _ => ?_
   refine ⟨_,rfl,?_⟩
   refine ⟨_,Od rfl,?_⟩
   refine ⟨_,rfl,(ac_impl_isNode x.id st).mono ?_⟩
   rintro _ st ⟨c,rfl,h2,rfl⟩
   rcases c with _|_
   ·replace h2 := of_decide_eq_false h2.symm
    iterate 4 refine ⟨_,rfl,?_⟩
    refine Cm (gg + 1) st [Ml 1 0,(5,vI (i : Int)),Ml 6 gg,(43,vS s.p s.x.items.length),(44,vI (s.x.items.length : Int)),(45,vI (i : Int)),(46,vB true),(85,vB true)] [(1,0,cSV s),(6,gg,[vI x.id,vI x.e.inc,vI x.e.rank,vI x.e.beat,vI x.e.ver,.string x.e.data])] fun _ _ => ?_
    exact cxs (Rt ⟨false,rfl,⟨fun h => absurd h Bool.false_ne_true,fun h => absurd (h.1 i x hx).1 h2⟩,rfl⟩)
   ·replace h2 := of_decide_eq_true h2.symm
    iterate 2 refine ⟨_,rfl,?_⟩
    refine ⟨_,Od rfl,?_⟩
    refine ⟨_,rfl,(ac_impl_EntryOk x.e st).mono ?_⟩
    rintro _ st ⟨d,rfl,h5,rfl⟩
    rcases d with _|_
    ·replace h5 := fun k => Bool.false_ne_true (h5.2 k)
     iterate 4 refine ⟨_,rfl,?_⟩
     refine Cm (gg + 1) st [Ml 1 0,(5,vI (i : Int)),Ml 6 gg,(43,vS s.p s.x.items.length),(44,vI (s.x.items.length : Int)),(45,vI (i : Int)),(46,vB true),(85,vB true)] [(1,0,cSV s),(6,gg,[vI x.id,vI x.e.inc,vI x.e.rank,vI x.e.beat,vI x.e.ver,.string x.e.data])] fun _ _ => ?_
     exact cxs (Rt ⟨false,rfl,⟨fun h => absurd h Bool.false_ne_true,fun h => absurd (h.1 i x hx).2.1 h5⟩,rfl⟩)
    ·replace h5 := h5.1 rfl
     iterate 4 refine ⟨_,rfl,?_⟩
     refine ⟨_,Od rfl,?_⟩
     refine ⟨ld_own rfl rfl rfl,?_⟩
     refine ⟨_,Od rfl,?_⟩
     refine ⟨_,rfl,?_⟩
     refine ⟨_,Od rfl,?_⟩
     refine ⟨_,rfl,(ac_impl_FloorOf s x.id st hR hb).mono ?_⟩
     rintro _ st ⟨rfl,rfl⟩
     refine ⟨fun _ _ => rfl,?_⟩
     refine ⟨_,rfl,?_⟩
     rintro (_|_) h6
     ·replace h6 : ¬ (x.e.inc ≤ floorOf s.x.floors x.id) := of_decide_eq_false h6
      iterate 2 refine ⟨_,rfl,?_⟩
      rintro (_|_) h3
      ·replace h3 : ¬ (0 < (i : Int)) := of_decide_eq_false h3
       iterate 2 refine ⟨_,rfl,?_⟩
       refine Cm (gg + 1) st [Ml 1 0,(5,vI (i : Int)),Ml 6 gg,(43,vS s.p s.x.items.length),(44,vI (s.x.items.length : Int)),(45,vI (i : Int)),(46,vB true),(85,vB false)] [(1,0,cSV s),(6,gg,[vI x.id,vI x.e.inc,vI x.e.rank,vI x.e.beat,vI x.e.ver,.string x.e.data])] fun _ _ => ?_
       refine cxs ?_
       have e86 : IntKind.wrap .i64 ((i : Int) + 1) = ((i + 1 : Nat) : Int) := (wrap_i64 (by omega) (by omega)).trans (by omega)
       refine ⟨_,rfl,?_⟩
       refine ⟨i + 1,s.x.items.length - (i + 1),by omega,⟨rfl,rfl,rfl,congrArg (Value.int .i64) e86,trivial⟩,⟨rfl,trivial⟩,rfl,h1',fun j u hj hu => ?_,rfl⟩
       rcases Nat.lt_or_ge j i with h | h
       ·exact hok j u h hu
       ·obtain rfl : j = i := by omega
        rw [hx] at hu
        injection hu with hu
        subst hu
        exact ⟨h2,h5,Int.not_le.1 h6,fun y h0 hy => absurd h0 (by omega)⟩
      ·replace h3 : 0 < (i : Int) := of_decide_eq_true h3
       refine ⟨_,rfl,?_⟩
       refine ⟨_,Od rfl,?_⟩
       have ⟨b2,o2,k2,y,hqe,hy,hm2,hc2,hb2⟩ := hR.1.atB (j := i - 1) (by omega)
       have e77 : IntKind.wrap .i64 ((i : Int) - 1) = ((i - 1 : Nat) : Int) := (wrap_i64 (by omega) (by omega)).trans (by omega)
       refine ⟨_,rfl,?_⟩
       refine ⟨_,op_idx (j := ((i - 1 : Nat) : Int)) (n := s.x.items.length) (q := ⟨b2,o2,none⟩) rfl (congrArg (fun u => vS u s.x.items.length) hqe) (congrArg (Value.int .i64) e77) rfl rfl (Int.natCast_nonneg _) (by omega),?_⟩
       refine ⟨_,rfl,?_⟩
       refine ⟨_,op_ldc (i := 0) rfl rfl rfl rfl hm2 hc2 rfl rfl,?_⟩
       refine ⟨_,rfl,?_⟩
       refine ⟨_,Od rfl,?_⟩
       refine ⟨_,rfl,?_⟩
       rintro (_|_) h4
       ·replace h4 : ¬ (x.id ≤ y.id) := of_decide_eq_false h4
        iterate 2 refine ⟨_,rfl,?_⟩
        refine Cm (gg + 1) st [Ml 1 0,(5,vI (i : Int)),Ml 6 gg,(43,vS s.p s.x.items.length),(44,vI (s.x.items.length : Int)),(45,vI (i : Int)),(46,vB true),(85,vB false)] [(1,0,cSV s),(6,gg,[vI x.id,vI x.e.inc,vI x.e.rank,vI x.e.beat,vI x.e.ver,.string x.e.data])] fun _ _ => ?_
        refine cxs ?_
        have e86 : IntKind.wrap .i64 ((i : Int) + 1) = ((i + 1 : Nat) : Int) := (wrap_i64 (by omega) (by omega)).trans (by omega)
        refine ⟨_,rfl,?_⟩
        refine ⟨i + 1,s.x.items.length - (i + 1),by omega,⟨rfl,rfl,rfl,congrArg (Value.int .i64) e86,trivial⟩,⟨rfl,trivial⟩,rfl,h1',fun j u hj hu => ?_,rfl⟩
        rcases Nat.lt_or_ge j i with h | h
        ·exact hok j u h hu
        ·obtain rfl : j = i := by omega
         rw [hx] at hu
         injection hu with hu
         subst hu
         refine ⟨h2,h5,Int.not_le.1 h6,fun z h0 hz => ?_⟩
         rw [hy] at hz
         injection hz with hz
         subst hz
         exact Int.not_le.1 h4
       ·replace h4 : x.id ≤ y.id := of_decide_eq_true h4
        iterate 2 refine ⟨_,rfl,?_⟩
        refine Cm (gg + 1) st [Ml 1 0,(5,vI (i : Int)),Ml 6 gg,(43,vS s.p s.x.items.length),(44,vI (s.x.items.length : Int)),(45,vI (i : Int)),(46,vB true),(85,vB true)] [(1,0,cSV s),(6,gg,[vI x.id,vI x.e.inc,vI x.e.rank,vI x.e.beat,vI x.e.ver,.string x.e.data])] fun _ _ => ?_
        exact cxs (Rt ⟨false,rfl,⟨fun h => absurd h Bool.false_ne_true,fun h => absurd ((h.1 i x hx).2.2.2 y (by omega) hy) (Int.not_lt.2 h4)⟩,rfl⟩)
     ·replace h6 : x.e.inc ≤ floorOf s.x.floors x.id := of_decide_eq_true h6
      iterate 2 refine ⟨_,rfl,?_⟩
      refine Cm (gg + 1) st [Ml 1 0,(5,vI (i : Int)),Ml 6 gg,(43,vS s.p s.x.items.length),(44,vI (s.x.items.length : Int)),(45,vI (i : Int)),(46,vB true),(85,vB true)] [(1,0,cSV s),(6,gg,[vI x.id,vI x.e.inc,vI x.e.rank,vI x.e.beat,vI x.e.ver,.string x.e.data])] fun _ _ => ?_
      exact cxs (Rt ⟨false,rfl,⟨fun h => absurd h Bool.false_ne_true,fun h => absurd (h.1 i x hx).2.2.1 (Int.not_lt.2 h6)⟩,rfl⟩)
 ·replace h7 : (v : Int) < (s.x.floors.length : Int) := of_decide_eq_true h7
  refine Cm gg st [Ml 1 0,(8,vS s.q s.x.floors.length),(9,vI (s.x.floors.length : Int)),(10,vI (v : Int)),(11,vB true)] [(1,0,cSV s)] fun _ _ => ?_
  have h7' := Int.ofNat_lt.1 h7
  have ⟨b3,o3,k3,x,hpe,hx,hm1,hc1,hb1⟩ := hR.2.atB h7'
  refine cxs ?_
  refine ⟨_,op_idx (j := (v : Int)) (n := s.x.floors.length) (q := ⟨b3,o3,none⟩) rfl (congrArg (fun u => vS u s.x.floors.length) hpe) rfl rfl rfl (Int.natCast_nonneg _) h7,?_⟩
  refine ⟨_,op_lda rfl rfl rfl rfl rfl hm1 hc1 rfl,?_⟩
  refine ⟨_,rfl,?_⟩
  refine ⟨_,Os rfl,?_⟩
  refine Cm (gg + 1) st [Ml 1 0,(3,vI (v : Int)),Ml 4 gg,(8,vS s.q s.x.floors.length),(9,vI (s.x.floors.length : Int)),(10,vI (v : Int)),(11,vB true)] [(1,0,cSV s),(4,gg,[vI x.id,vI x.inc])] fun _ _ => ?_
  refine ⟨_,rfl,?_⟩
  refine ⟨_,Od rfl,?_⟩
  refine ⟨_,rfl,(ac_impl_isNode x.id st).mono ?_⟩
  rintro _ st ⟨c,rfl,h8,rfl⟩
  rcases c with _|_
  ·replace h8 := of_decide_eq_false h8.symm
   iterate 3 refine ⟨_,rfl,?_⟩
   refine Cm (gg + 1) st [Ml 1 0,(3,vI (v : Int)),Ml 4 gg,(8,vS s.q s.x.floors.length),(9,vI (s.x.floors.length : Int)),(10,vI (v : Int)),(11,vB true),(40,vB true)] [(1,0,cSV s),(4,gg,[vI x.id,vI x.inc])] fun _ _ => ?_
   exact cxs (Rt ⟨false,rfl,⟨fun h => absurd h Bool.false_ne_true,fun h => absurd (h.2 v x hx).1 h8⟩,rfl⟩)
  ·replace h8 := of_decide_eq_true h8.symm
   iterate 2 refine ⟨_,rfl,?_⟩
   refine ⟨_,Od rfl,?_⟩
   refine ⟨_,rfl,(ac_impl_within x.inc 1 1000 st).mono ?_⟩
   rintro _ st ⟨d,rfl,h11,rfl⟩
   rcases d with _|_
   ·replace h11 := of_decide_eq_false h11.symm
    iterate 3 refine ⟨_,rfl,?_⟩
    refine Cm (gg + 1) st [Ml 1 0,(3,vI (v : Int)),Ml 4 gg,(8,vS s.q s.x.floors.length),(9,vI (s.x.floors.length : Int)),(10,vI (v : Int)),(11,vB true),(40,vB true)] [(1,0,cSV s),(4,gg,[vI x.id,vI x.inc])] fun _ _ => ?_
    exact cxs (Rt ⟨false,rfl,⟨fun h => absurd h Bool.false_ne_true,fun h => absurd (h.2 v x hx).2.1 h11⟩,rfl⟩)
   ·replace h11 := of_decide_eq_true h11.symm
    iterate 3 refine ⟨_,rfl,?_⟩
    rintro (_|_) h9
    ·replace h9 : ¬ (0 < (v : Int)) := of_decide_eq_false h9
     iterate 2 refine ⟨_,rfl,?_⟩
     refine Cm (gg + 1) st [Ml 1 0,(3,vI (v : Int)),Ml 4 gg,(8,vS s.q s.x.floors.length),(9,vI (s.x.floors.length : Int)),(10,vI (v : Int)),(11,vB true),(40,vB false)] [(1,0,cSV s),(4,gg,[vI x.id,vI x.inc])] fun _ _ => ?_
     refine cxs ?_
     have e41 : IntKind.wrap .i64 ((v : Int) + 1) = ((v + 1 : Nat) : Int) := (wrap_i64 (by omega) (by omega)).trans (by omega)
     refine ⟨_,rfl,?_⟩
     refine ⟨v + 1,s.x.floors.length - (v + 1),by omega,⟨rfl,rfl,rfl,congrArg (Value.int .i64) e41,trivial⟩,⟨rfl,trivial⟩,rfl,h7',fun j u hj hu => ?_,rfl⟩
     rcases Nat.lt_or_ge j v with h | h
     ·exact hok2 j u h hu
     ·obtain rfl : j = v := by omega
      rw [hx] at hu
      injection hu with hu
      subst hu
      exact ⟨h8,h11,fun y h0 hy => absurd h0 (by omega)⟩
    ·replace h9 : 0 < (v : Int) := of_decide_eq_true h9
     refine ⟨_,rfl,?_⟩
     refine ⟨_,Od rfl,?_⟩
     have ⟨b2,o2,k2,y,hqe,hy,hm2,hc2,hb2⟩ := hR.2.atB (j := v - 1) (by omega)
     have e32 : IntKind.wrap .i64 ((v : Int) - 1) = ((v - 1 : Nat) : Int) := (wrap_i64 (by omega) (by omega)).trans (by omega)
     refine ⟨_,rfl,?_⟩
     refine ⟨_,op_idx (j := ((v - 1 : Nat) : Int)) (n := s.x.floors.length) (q := ⟨b2,o2,none⟩) rfl (congrArg (fun u => vS u s.x.floors.length) hqe) (congrArg (Value.int .i64) e32) rfl rfl (Int.natCast_nonneg _) (by omega),?_⟩
     refine ⟨_,rfl,?_⟩
     refine ⟨_,op_ldc (i := 0) rfl rfl rfl rfl hm2 hc2 rfl rfl,?_⟩
     refine ⟨_,rfl,?_⟩
     refine ⟨_,Od rfl,?_⟩
     refine ⟨_,rfl,?_⟩
     rintro (_|_) h10
     ·replace h10 : ¬ (x.id ≤ y.id) := of_decide_eq_false h10
      iterate 2 refine ⟨_,rfl,?_⟩
      refine Cm (gg + 1) st [Ml 1 0,(3,vI (v : Int)),Ml 4 gg,(8,vS s.q s.x.floors.length),(9,vI (s.x.floors.length : Int)),(10,vI (v : Int)),(11,vB true),(40,vB false)] [(1,0,cSV s),(4,gg,[vI x.id,vI x.inc])] fun _ _ => ?_
      refine cxs ?_
      have e41 : IntKind.wrap .i64 ((v : Int) + 1) = ((v + 1 : Nat) : Int) := (wrap_i64 (by omega) (by omega)).trans (by omega)
      refine ⟨_,rfl,?_⟩
      refine ⟨v + 1,s.x.floors.length - (v + 1),by omega,⟨rfl,rfl,rfl,congrArg (Value.int .i64) e41,trivial⟩,⟨rfl,trivial⟩,rfl,h7',fun j u hj hu => ?_,rfl⟩
      rcases Nat.lt_or_ge j v with h | h
      ·exact hok2 j u h hu
      ·obtain rfl : j = v := by omega
       rw [hx] at hu
       injection hu with hu
       subst hu
       refine ⟨h8,h11,fun z h0 hz => ?_⟩
       rw [hy] at hz
       injection hz with hz
       subst hz
       exact Int.not_le.1 h10
     ·replace h10 : x.id ≤ y.id := of_decide_eq_true h10
      iterate 2 refine ⟨_,rfl,?_⟩
      refine Cm (gg + 1) st [Ml 1 0,(3,vI (v : Int)),Ml 4 gg,(8,vS s.q s.x.floors.length),(9,vI (s.x.floors.length : Int)),(10,vI (v : Int)),(11,vB true),(40,vB true)] [(1,0,cSV s),(4,gg,[vI x.id,vI x.inc])] fun _ _ => ?_
      exact cxs (Rt ⟨false,rfl,⟨fun h => absurd h Bool.false_ne_true,fun h => absurd ((h.2 v x hx).2.2 y (by omega) hy) (Int.not_lt.2 h10)⟩,rfl⟩)
theorem row_sub {cs r q : List Value} {d z i n : Nat} (hc : (cs.drop d).take z = r) (hq : (r.drop i).take n = q) (hle : i + n ≤ z) : (cs.drop (d + i)).take n = q := by
 subst hc hq
 rw [List.drop_take,List.take_take,List.drop_drop,Nat.min_eq_left (by omega)]
theorem copy_facts {st s1 s2 : St} {q1 q2 : Option Addr} {A B : Prop} {m : Nat} (hP : Pres st s1) (hN : New st.next q1) (hPr : Pr q1 s1 s2) (h : (q2 = q1 ∧ A ∧ B) ∨ (0 < m ∧ New s1.next q2)) : Pres st s2 ∧ New st.next q2 := by
 refine ⟨hPr.pres hP hN,?_⟩
 rcases h with ⟨h,_⟩ | ⟨_,h⟩
 ·rw [h]; exact hN
 ·exact h.le hP.1
theorem Pr.low {p : Option Addr} {st0 s s' : St} (h : Pr p s s') (hP : Pres st0 s) (hN : New st0.next p) : ∀ a,a < st0.next → s'.mem a = s.mem a :=
 fun a ha => h.2 a (Nat.lt_of_lt_of_le ha hP.1) fun q hq e => by have := hN q hq; omega
theorem Pres.low {st0 s s' : St} (h : Pres s s') (hP : Pres st0 s) : ∀ a,a < st0.next → s'.mem a = s.mem a := fun a ha => h.2 a (Nat.lt_of_lt_of_le ha hP.1)
theorem ac_impl_copyState (s : SV) (st : St) (hR : RdS st s) (hb : bigS s.x) : C 71 [.agg #[vS s.p s.x.items.length,vS s.q s.x.floors.length]] st (fun v s' => ∃ u : SV,v = .agg #[vS u.p u.x.items.length,vS u.q u.x.floors.length] ∧ u.x = s.x ∧ OwnP s' (pcS u) ∧ NewP st.next (pcS u) ∧ Pres st s') := by
 have hs1 : s.x.items.length ≤ 1048576 := hb.1
 have hs2 : s.x.floors.length ≤ 1048576 := hb.2.1
 refine AC.enterX (i := ⟨[1,2],[1,2,4,8],[0,1,2],[]⟩) [(1,[3],[6])] Tryz.func71 rfl rfl (by kernel_rfl) (by kernel_rfl) Tryz.ntmps71 (Lb rfl) rfl ?_
 iterate 2 refine ⟨_,rfl,?_⟩
 refine Cm 2 st [Ml 1 0,Ml 2 1] [(1,0,cSV s),(2,1,[Sn,Sn])] fun _ _ => ?_
 refine op_nilK (z := 6) (f := cItm) rfl rfl rfl rfl (by decide) rfl ?_
 intro q1 s1 hO1 hP1 hN1
 iterate 2 refine ⟨_,rfl,?_⟩
 refine op_app (z := 6) (st := s1) (f := cItm) (b := 56) (l := []) (l2 := s.x.items) rfl rfl rfl rfl rfl rfl rfl (by decide) len_cItm rfl rfl rfl rfl (by omega) (by unfold maxLen; omega) hO1 (hP1.rows hR.1) ?_
 intro q2 s2 hO2 hPr2 hN2
 refine ⟨hPr2.low hP1 hN1,?_⟩
 have ⟨hP2,hN2⟩ := copy_facts hP1 hN1 hPr2 hN2
 refine op_nilK (z := 2) (f := cFlr) rfl rfl rfl rfl (by decide) rfl ?_
 intro q3 s3 hO3 hP3 hN3
 iterate 2 refine ⟨_,rfl,?_⟩
 refine ⟨ld_own rfl rfl rfl,?_⟩
 refine op_app (z := 2) (st := s3) (f := cFlr) (b := 16) (l := []) (l2 := s.x.floors) rfl rfl rfl rfl rfl rfl rfl (by decide) len_cFlr rfl rfl rfl rfl (by omega) (by unfold maxLen; omega) hO3 ((hP2.trans hP3).rows hR.2) ?_
 intro q4 s4 hO4 hPr4 hN4
 iterate 2 refine ⟨_,rfl,?_⟩
 refine cxs ?_
 have ⟨hP4,hN4⟩ := copy_facts hP3 hN3 hPr4 hN4
 refine ⟨.inl rfl,_,rfl,⟨q2,q4,s.x⟩,?_,rfl,OwnP.join (l := [pcR 6 cItm q2 s.x.items]) (OwnP.one (own_pc hO2)) hP4 (OwnP.one (own_pc hO4)) (NewP.cons hN4 NewP.nil),NewP.cons hN2 (NewP.cons (hN4.le hP2.1) NewP.nil),hP2.trans hP4⟩
 show Value.agg #[vS q2 (0 + s.x.items.length),vS q4 (0 + s.x.floors.length)] = _
 rw [Nat.zero_add,Nat.zero_add]
theorem ac_spec_l3Copy (s : SV) (st : St) (hR : RdS st s) (hb : bigS s.x) : C 157 [.agg #[vS s.p s.x.items.length,vS s.q s.x.floors.length]] st (fun v s' => ∃ u : SV,v = .agg #[vS u.p u.x.items.length,vS u.q u.x.floors.length] ∧ u.x = s.x ∧ OwnP s' (pcS u) ∧ NewP st.next (pcS u) ∧ Pres st s') := by
 have hs1 : s.x.items.length ≤ 1048576 := hb.1
 have hs2 : s.x.floors.length ≤ 1048576 := hb.2.1
 refine AC.enterX (i := ⟨[1,2],[1,2,4,8],[0,1,2],[]⟩) [(1,[3],[6])] Tryz.func157 rfl rfl (by kernel_rfl) (by kernel_rfl) Tryz.ntmps157 (Lb rfl) rfl ?_
 iterate 2 refine ⟨_,rfl,?_⟩
 refine Cm 2 st [Ml 1 0,Ml 2 1] [(1,0,cSV s),(2,1,[Sn,Sn])] fun _ _ => ?_
 refine op_nilK (z := 6) (f := cItm) rfl rfl rfl rfl (by decide) rfl ?_
 intro q1 s1 hO1 hP1 hN1
 iterate 2 refine ⟨_,rfl,?_⟩
 refine op_app (z := 6) (st := s1) (f := cItm) (b := 56) (l := []) (l2 := s.x.items) rfl rfl rfl rfl rfl rfl rfl (by decide) len_cItm rfl rfl rfl rfl (by omega) (by unfold maxLen; omega) hO1 (hP1.rows hR.1) ?_
 intro q2 s2 hO2 hPr2 hN2
 refine ⟨hPr2.low hP1 hN1,?_⟩
 have ⟨hP2,hN2⟩ := copy_facts hP1 hN1 hPr2 hN2
 refine op_nilK (z := 2) (f := cFlr) rfl rfl rfl rfl (by decide) rfl ?_
 intro q3 s3 hO3 hP3 hN3
 iterate 2 refine ⟨_,rfl,?_⟩
 refine ⟨ld_own rfl rfl rfl,?_⟩
 refine op_app (z := 2) (st := s3) (f := cFlr) (b := 16) (l := []) (l2 := s.x.floors) rfl rfl rfl rfl rfl rfl rfl (by decide) len_cFlr rfl rfl rfl rfl (by omega) (by unfold maxLen; omega) hO3 ((hP2.trans hP3).rows hR.2) ?_
 intro q4 s4 hO4 hPr4 hN4
 iterate 2 refine ⟨_,rfl,?_⟩
 refine cxs ?_
 have ⟨hP4,hN4⟩ := copy_facts hP3 hN3 hPr4 hN4
 refine ⟨.inl rfl,_,rfl,⟨q2,q4,s.x⟩,?_,rfl,OwnP.join (l := [pcR 6 cItm q2 s.x.items]) (OwnP.one (own_pc hO2)) hP4 (OwnP.one (own_pc hO4)) (NewP.cons hN4 NewP.nil),NewP.cons hN2 (NewP.cons (hN4.le hP2.1) NewP.nil),hP2.trans hP4⟩
 show Value.agg #[vS q2 (0 + s.x.items.length),vS q4 (0 + s.x.floors.length)] = _
 rw [Nat.zero_add,Nat.zero_add]
def entP : List Itm → Int → Ent × Bool
 | [],_ => (zEnt,false)
 | x :: l,id => if x.id = id then (x.e,true) else entP l id
theorem ac_impl_EntryOf (s : SV) (id : Int) (st : St) (hR : RdS st s) (hb : bigS s.x) : C 151 [.agg #[vS s.p s.x.items.length,vS s.q s.x.floors.length],vI id] st (fun v s' => ∃ e b,v = .tuple #[.agg #[vI e.inc,vI e.rank,vI e.beat,vI e.ver,.string e.data],vB b] ∧ (e,b) = entP s.x.items id ∧ s' = st) := by
 have hs1 : s.x.items.length ≤ 1048576 := hb.1
 refine AC.enterX (i := ⟨[2,4,7],[2,4,7,8,15,19],[0,1,2,4,5,7,9,10,11,12,18],[]⟩) [] Tryz.func151 rfl rfl (by kernel_rfl) (by kernel_rfl) Tryz.ntmps151 (Lb rfl) rfl ?_
 iterate 2 refine ⟨_,rfl,?_⟩
 refine Cm 2 st [(1,vI id),Ml 2 0,Ml 4 1,(5,vB false)] [(2,0,cSV s),(4,1,[vI 0,vI 0,vI 0,vI 0,.string ⟨#[]⟩])] fun _ _ => ?_
 iterate 3 refine ⟨_,rfl,?_⟩
 refine Cm 2 st [(1,vI id),Ml 2 0,Ml 4 1,(5,vB false),(9,vS s.p s.x.items.length),(10,vI (s.x.items.length)),(11,vI 0)] [(2,0,cSV s),(4,1,[vI 0,vI 0,vI 0,vI 0,.string ⟨#[]⟩])] fun _ _ => ?_
 refine AW.loopM (fun i : Nat => [(1,vI id),(2,vL 2 0 (0)),(4,vL 4 0 (1)),(5,vB false),(9,vS s.p s.x.items.length),(10,vI (s.x.items.length : Int)),(11,vI (i : Int))]) (fun i : Nat => [(2,0,[vS s.p s.x.items.length,vS s.q s.x.floors.length]),(4,1,[vI 0,vI 0,vI 0,vI 0,.string ⟨#[]⟩])]) (fun m (i : Nat) st' => m = s.x.items.length - i ∧ i ≤ s.x.items.length ∧ entP s.x.items id = entP (s.x.items.drop i) id ∧ st = st') 0 _ ⟨rfl,rfl,rfl,rfl,rfl,rfl,rfl,trivial⟩ ⟨rfl,rfl,trivial⟩ ⟨rfl,Nat.zero_le _,rfl,rfl⟩ ?_
 rintro m i ρ0 ff gg st' ⟨rfl,hi,hf,rfl⟩
 refine ⟨_,rfl,?_⟩
 rintro (_|_) h1
 ·replace h1 : ¬ ((i : Int) < (s.x.items.length : Int)) := of_decide_eq_false h1
  refine Cm gg st [(1,vI id),Ml 2 0,Ml 4 1,(5,vB false),(9,vS s.p s.x.items.length),(10,vI (s.x.items.length : Int)),(11,vI (i : Int)),(12,vB false)] [(2,0,cSV s),(4,1,[vI 0,vI 0,vI 0,vI 0,.string ⟨#[]⟩])] fun _ _ => ?_
  refine cxs ?_
  refine ⟨_,rfl,?_⟩
  refine ⟨_,Os rfl,?_⟩
  refine cxs ?_
  have hil : i = s.x.items.length := by omega
  exact Rt ⟨zEnt,false,rfl,by rw [hf,hil,List.drop_length]; rfl,rfl⟩
 ·replace h1 : (i : Int) < (s.x.items.length : Int) := of_decide_eq_true h1
  refine Cm gg st [(1,vI id),Ml 2 0,Ml 4 1,(5,vB false),(9,vS s.p s.x.items.length),(10,vI (s.x.items.length : Int)),(11,vI (i : Int)),(12,vB true)] [(2,0,cSV s),(4,1,[vI 0,vI 0,vI 0,vI 0,.string ⟨#[]⟩])] fun _ _ => ?_
  have h1' := Int.ofNat_lt.1 h1
  have ⟨b1,o1,k1,x,hpe,hx,hm1,hc1,hb1⟩ := hR.1.atB h1'
  rw [(split_at' hx).2.2,entP] at hf
  refine cxs ?_
  refine ⟨_,op_idx (j := (i : Int)) (n := s.x.items.length) (q := ⟨b1,o1,none⟩) rfl (congrArg (fun u => vS u s.x.items.length) hpe) rfl rfl rfl (Int.natCast_nonneg _) h1,?_⟩
  refine ⟨_,op_lda rfl rfl rfl rfl rfl hm1 hc1 rfl,?_⟩
  refine ⟨_,rfl,?_⟩
  refine ⟨_,Os rfl,?_⟩
  refine Cm (gg + 1) st [(1,vI id),Ml 2 0,Ml 4 1,(5,vB false),Ml 7 gg,(9,vS s.p s.x.items.length),(10,vI (s.x.items.length : Int)),(11,vI (i : Int)),(12,vB true)] [(2,0,cSV s),(4,1,[vI 0,vI 0,vI 0,vI 0,.string ⟨#[]⟩]),(7,gg,[vI x.id,vI x.e.inc,vI x.e.rank,vI x.e.beat,vI x.e.ver,.string x.e.data])] fun _ _ => ?_
  refine ⟨_,rfl,?_⟩
  refine ⟨_,Od rfl,?_⟩
  refine ⟨_,rfl,?_⟩
  rintro (_|_) h2
  ·replace h2 : ¬ (x.id = id) := beq_eq_false_iff_ne.1 h2
   refine Cm (gg + 1) st [(1,vI id),Ml 2 0,Ml 4 1,(5,vB false),Ml 7 gg,(9,vS s.p s.x.items.length),(10,vI (s.x.items.length : Int)),(11,vI (i : Int)),(12,vB true),(18,vB false)] [(2,0,cSV s),(4,1,[vI 0,vI 0,vI 0,vI 0,.string ⟨#[]⟩]),(7,gg,[vI x.id,vI x.e.inc,vI x.e.rank,vI x.e.beat,vI x.e.ver,.string x.e.data])] fun _ _ => ?_
   refine cxs ?_
   have e21 : IntKind.wrap .i64 ((i : Int) + 1) = ((i + 1 : Nat) : Int) := (wrap_i64 (by omega) (by omega)).trans (by omega)
   refine ⟨_,rfl,?_⟩
   exact ⟨i + 1,s.x.items.length - (i + 1),by omega,⟨rfl,rfl,rfl,rfl,rfl,rfl,congrArg (Value.int .i64) e21,trivial⟩,⟨rfl,rfl,trivial⟩,rfl,h1',by rw [hf,if_neg h2],rfl⟩
  ·replace h2 : x.id = id := beq_iff_eq.1 h2
   refine Cm (gg + 1) st [(1,vI id),Ml 2 0,Ml 4 1,(5,vB false),Ml 7 gg,(9,vS s.p s.x.items.length),(10,vI (s.x.items.length : Int)),(11,vI (i : Int)),(12,vB true),(18,vB true)] [(2,0,cSV s),(4,1,[vI 0,vI 0,vI 0,vI 0,.string ⟨#[]⟩]),(7,gg,[vI x.id,vI x.e.inc,vI x.e.rank,vI x.e.beat,vI x.e.ver,.string x.e.data])] fun _ _ => ?_
   refine ⟨_,rfl,?_⟩
   refine ⟨_,Od rfl,?_⟩
   refine ⟨_,Os rfl,?_⟩
   exact cxs (Rt ⟨x.e,true,rfl,by rw [hf,if_pos h2],rfl⟩)
theorem ac_spec_EntryOf (s : SV) (id : Int) (st : St) (hR : RdS st s) (hb : bigS s.x) : C 206 [.agg #[vS s.p s.x.items.length,vS s.q s.x.floors.length],vI id] st (fun v s' => ∃ e b,v = .tuple #[.agg #[vI e.inc,vI e.rank,vI e.beat,vI e.ver,.string e.data],vB b] ∧ (e,b) = entP s.x.items id ∧ s' = st) := by
 have hs1 : s.x.items.length ≤ 1048576 := hb.1
 refine AC.enterX (i := ⟨[2,4],[2,4,8,14,22],[0,1,2,4,5,6,11,21],[]⟩) [] Tryz.func206 rfl rfl (by kernel_rfl) (by kernel_rfl) Tryz.ntmps206 (Lb rfl) rfl ?_
 iterate 2 refine ⟨_,rfl,?_⟩
 refine cxs ?_
 refine Cm 2 st [(1,vI id),Ml 2 0,Ml 4 1,(5,vB false),(6,vI 0)] [(2,0,cSV s),(4,1,[vI 0,vI 0,vI 0,vI 0,.string ⟨#[]⟩])] fun _ _ => ?_
 refine AW.loopM (fun i : Nat => [(1,vI id),(2,vL 2 0 (0)),(4,vL 4 0 (1)),(5,vB false),(6,vI (i : Int))]) (fun i : Nat => [(2,0,[vS s.p s.x.items.length,vS s.q s.x.floors.length]),(4,1,[vI 0,vI 0,vI 0,vI 0,.string ⟨#[]⟩])]) (fun m (i : Nat) st' => m = s.x.items.length - i ∧ i ≤ s.x.items.length ∧ entP s.x.items id = entP (s.x.items.drop i) id ∧ st = st') 0 _ ⟨rfl,rfl,rfl,rfl,rfl,trivial⟩ ⟨rfl,rfl,trivial⟩ ⟨rfl,Nat.zero_le _,rfl,rfl⟩ ?_
 rintro m i ρ0 ff gg st' ⟨rfl,hi,hf,rfl⟩
 refine ⟨_,rfl,?_⟩
 refine ⟨_,Od rfl,?_⟩
 iterate 2 refine ⟨_,rfl,?_⟩
 rintro (_|_) h1
 ·replace h1 : ¬ ((i : Int) < (s.x.items.length : Int)) := of_decide_eq_false h1
  refine Cm gg st [(1,vI id),Ml 2 0,Ml 4 1,(5,vB false),(6,vI (i : Int)),(11,vB false)] [(2,0,cSV s),(4,1,[vI 0,vI 0,vI 0,vI 0,.string ⟨#[]⟩])] fun _ _ => ?_
  refine cxs ?_
  refine ⟨_,rfl,?_⟩
  refine ⟨_,Os rfl,?_⟩
  refine cxs ?_
  have hil : i = s.x.items.length := by omega
  exact Rt ⟨zEnt,false,rfl,by rw [hf,hil,List.drop_length]; rfl,rfl⟩
 ·replace h1 : (i : Int) < (s.x.items.length : Int) := of_decide_eq_true h1
  refine Cm gg st [(1,vI id),Ml 2 0,Ml 4 1,(5,vB false),(6,vI (i : Int)),(11,vB true)] [(2,0,cSV s),(4,1,[vI 0,vI 0,vI 0,vI 0,.string ⟨#[]⟩])] fun _ _ => ?_
  have h1' := Int.ofNat_lt.1 h1
  have ⟨b1,o1,k1,x,hpe,hx,hm1,hc1,hb1⟩ := hR.1.atB h1'
  rw [(split_at' hx).2.2,entP] at hf
  have hc5 : (k1.cells.drop (o1 + i * 6 + 1)).take 5 = cEnt x.e := row_sub (i := 1) hc1 rfl (by decide)
  refine cxs ?_
  refine ⟨_,rfl,?_⟩
  refine ⟨_,Od rfl,?_⟩
  refine ⟨_,op_idx (j := (i : Int)) (n := s.x.items.length) (q := ⟨b1,o1,none⟩) rfl (congrArg (fun u => vS u s.x.items.length) hpe) rfl rfl rfl (Int.natCast_nonneg _) h1,?_⟩
  refine ⟨_,rfl,?_⟩
  refine ⟨_,op_ldc (i := 0) rfl rfl rfl rfl hm1 hc1 rfl rfl,?_⟩
  refine ⟨_,rfl,?_⟩
  rintro (_|_) h2
  ·replace h2 : ¬ (x.id = id) := beq_eq_false_iff_ne.1 h2
   refine Cm gg st [(1,vI id),Ml 2 0,Ml 4 1,(5,vB false),(6,vI (i : Int)),(11,vB true),(21,vB false)] [(2,0,cSV s),(4,1,[vI 0,vI 0,vI 0,vI 0,.string ⟨#[]⟩])] fun _ _ => ?_
   refine cxs ?_
   have e13 : IntKind.wrap .i64 ((i : Int) + 1) = ((i + 1 : Nat) : Int) := (wrap_i64 (by omega) (by omega)).trans (by omega)
   refine ⟨_,rfl,?_⟩
   exact ⟨i + 1,s.x.items.length - (i + 1),by omega,⟨rfl,rfl,rfl,rfl,congrArg (Value.int .i64) e13,trivial⟩,⟨rfl,rfl,trivial⟩,rfl,h1',by rw [hf,if_neg h2],rfl⟩
  ·replace h2 : x.id = id := beq_iff_eq.1 h2
   refine Cm gg st [(1,vI id),Ml 2 0,Ml 4 1,(5,vB false),(6,vI (i : Int)),(11,vB true),(21,vB true)] [(2,0,cSV s),(4,1,[vI 0,vI 0,vI 0,vI 0,.string ⟨#[]⟩])] fun _ _ => ?_
   refine ⟨_,rfl,?_⟩
   refine ⟨_,Od rfl,?_⟩
   refine ⟨_,op_idx (j := (i : Int)) (n := s.x.items.length) (q := ⟨b1,o1,none⟩) rfl (congrArg (fun u => vS u s.x.items.length) hpe) rfl rfl rfl (Int.natCast_nonneg _) h1,?_⟩
   refine ⟨_,rfl,?_⟩
   refine ⟨_,op_lda rfl rfl rfl rfl rfl hm1 hc5 rfl,?_⟩
   refine ⟨_,Os rfl,?_⟩
   exact cxs (Rt ⟨x.e,true,rfl,by rw [hf,if_pos h2],rfl⟩)
open Classical in
noncomputable def goneAt (s : Sta) (id : Int) : Int :=
 if stateOk s then (if (entP s.items id).2 = true then (if (entP s.items id).1.rank = 1 then (entP s.items id).1.inc else (entP s.items id).1.inc - 1) else floorOf s.floors id) else 0
theorem entP_mem : ∀ {l : List Itm} {id : Int} {e : Ent},(e,true) = entP l id → ∃ (j : Nat) (x : Itm),l[j]? = some x ∧ x.e = e ∧ x.id = id
 | [],id,e,h => by simp [entP] at h
 | x :: l,id,e,h => by
  rw [entP] at h
  split at h
  ·rename_i hx
   injection h with h
   exact ⟨0,x,rfl,h.symm,hx⟩
  ·obtain ⟨j,y,h1,h2⟩ := entP_mem h
   exact ⟨j + 1,y,by simpa using h1,h2⟩
theorem ent_ok {s : Sta} (h : stateOk s) {id : Int} {e : Ent} (he : (e,true) = entP s.items id) : entOk e := by
 obtain ⟨j,x,h1,h2,_⟩ := entP_mem he
 rw [← h2]; exact (h.1 j x h1).2.1
theorem ac_impl_GoneAt (s : SV) (id : Int) (st : St) (hR : RdS st s) (hb : bigS s.x) : C 153 [.agg #[vS s.p s.x.items.length,vS s.q s.x.floors.length],vI id] st (fun v s' => v = vI (goneAt s.x id) ∧ s' = st) := by
 refine AC.enterX (i := ⟨[2,5],[2,5,23,26,28],[0,1,2,4,5,6,9,16,22],[]⟩) [] Tryz.func153 rfl rfl (by kernel_rfl) (by kernel_rfl) Tryz.ntmps153 (Lb rfl) rfl ?_
 refine ⟨_,rfl,?_⟩
 refine Cm 1 st [(1,vI id),Ml 2 0,(4,vI 0)] [(2,0,cSV s)] fun _ _ => ?_
 refine ⟨_,rfl,?_⟩
 refine ⟨_,rfl,(ac_impl_StateOk s st hR hb).mono ?_⟩
 rintro _ st ⟨c,rfl,hk,rfl⟩
 rcases c with _|_
 ·replace hk := fun k => Bool.false_ne_true (hk.2 k)
  refine ⟨_,rfl,?_⟩
  refine Cm 1 st [(1,vI id),Ml 2 0,(4,vI 0),(9,vB true)] [(2,0,cSV s)] fun _ _ => ?_
  exact cxs (Rt ⟨congrArg vI (by rw [goneAt,if_neg hk]),rfl⟩)
 ·replace hk := hk.1 rfl
  refine ⟨_,rfl,?_⟩
  refine Cm 1 st [(1,vI id),Ml 2 0,(4,vI 0),(9,vB false)] [(2,0,cSV s)] fun _ _ => ?_
  refine cxs ?_
  refine ⟨_,rfl,?_⟩
  refine ⟨_,rfl,(ac_impl_EntryOf s id st hR hb).mono ?_⟩
  rintro _ st ⟨e,b,rfl,he,rfl⟩
  rcases b with _|_
  ·iterate 4 refine ⟨_,rfl,?_⟩
   refine Cm 2 st [(1,vI id),Ml 2 0,(4,vI 0),Ml 5 1,(6,vB false)] [(2,0,cSV s),(5,1,[vI e.inc,vI e.rank,vI e.beat,vI e.ver,.string e.data])] fun _ _ => ?_
   refine ⟨_,rfl,?_⟩
   refine Cm 2 st [(1,vI id),Ml 2 0,(4,vI 0),Ml 5 1,(16,vB true)] [(2,0,cSV s),(5,1,[vI e.inc,vI e.rank,vI e.beat,vI e.ver,.string e.data])] fun _ _ => ?_
   refine ⟨_,rfl,?_⟩
   refine ⟨_,rfl,(ac_impl_FloorOf s id st hR hb).mono ?_⟩
   rintro _ st ⟨rfl,rfl⟩
   exact cxs (Rt ⟨congrArg vI (by simp [goneAt,hk,← he]),rfl⟩)
  ·iterate 4 refine ⟨_,rfl,?_⟩
   refine Cm 2 st [(1,vI id),Ml 2 0,(4,vI 0),Ml 5 1,(6,vB true)] [(2,0,cSV s),(5,1,[vI e.inc,vI e.rank,vI e.beat,vI e.ver,.string e.data])] fun _ _ => ?_
   refine ⟨_,rfl,?_⟩
   refine Cm 2 st [(1,vI id),Ml 2 0,(4,vI 0),Ml 5 1,(16,vB false)] [(2,0,cSV s),(5,1,[vI e.inc,vI e.rank,vI e.beat,vI e.ver,.string e.data])] fun _ _ => ?_
   iterate 3 refine ⟨_,rfl,?_⟩
   rintro (_|_) h3
   ·replace h3 : ¬ (e.rank = 1) := beq_eq_false_iff_ne.1 h3
    refine Cm 2 st [(4,vI 0),Ml 5 1,(22,vB false)] [(5,1,[vI e.inc,vI e.rank,vI e.beat,vI e.ver,.string e.data])] fun _ _ => ?_
    refine cxs ?_
    iterate 2 refine ⟨_,rfl,?_⟩
    have hee := (ent_ok hk he).1
    have e30 : IntKind.wrap .i64 (e.inc - 1) = e.inc - 1 := wrap_i64 (by omega) (by omega)
    refine ⟨_,rfl,?_⟩
    exact cxs (Rt ⟨congrArg vI (by simp [goneAt,hk,← he,h3,e30]),rfl⟩)
   ·replace h3 : e.rank = 1 := beq_iff_eq.1 h3
    refine Cm 2 st [(4,vI 0),Ml 5 1,(22,vB true)] [(5,1,[vI e.inc,vI e.rank,vI e.beat,vI e.ver,.string e.data])] fun _ _ => ?_
    iterate 2 refine ⟨_,rfl,?_⟩
    exact cxs (Rt ⟨congrArg vI (by simp [goneAt,hk,← he,h3]),rfl⟩)
theorem ac_spec_GoneAt (s : SV) (id : Int) (st : St) (hR : RdS st s) (hb : bigS s.x) : C 209 [.agg #[vS s.p s.x.items.length,vS s.q s.x.floors.length],vI id] st (fun v s' => v = vI (goneAt s.x id) ∧ s' = st) := by
 refine AC.enterX (i := ⟨[2,5],[2,5,21,24,27],[0,1,2,4,5,6,9,17,23],[]⟩) [] Tryz.func209 rfl rfl (by kernel_rfl) (by kernel_rfl) Tryz.ntmps209 (Lb rfl) rfl ?_
 refine ⟨_,rfl,?_⟩
 refine Cm 1 st [(1,vI id),Ml 2 0,(4,vI 0)] [(2,0,cSV s)] fun _ _ => ?_
 refine ⟨_,rfl,?_⟩
 refine ⟨_,rfl,(ac_spec_StateOk s st hR hb).mono ?_⟩
 rintro _ st ⟨c,rfl,hk,rfl⟩
 rcases c with _|_
 ·replace hk := fun k => Bool.false_ne_true (hk.2 k)
  refine ⟨_,rfl,?_⟩
  refine Cm 1 st [(1,vI id),Ml 2 0,(4,vI 0),(9,vB true)] [(2,0,cSV s)] fun _ _ => ?_
  exact cxs (Rt ⟨congrArg vI (by rw [goneAt,if_neg hk]),rfl⟩)
 ·replace hk := hk.1 rfl
  refine ⟨_,rfl,?_⟩
  refine Cm 1 st [(1,vI id),Ml 2 0,(4,vI 0),(9,vB false)] [(2,0,cSV s)] fun _ _ => ?_
  refine cxs ?_
  refine ⟨_,rfl,?_⟩
  refine ⟨_,rfl,(ac_spec_EntryOf s id st hR hb).mono ?_⟩
  rintro _ st ⟨e,b,rfl,he,rfl⟩
  rcases b with _|_
  ·iterate 4 refine ⟨_,rfl,?_⟩
   refine Cm 2 st [(1,vI id),Ml 2 0,(4,vI 0),Ml 5 1,(6,vB false)] [(2,0,cSV s),(5,1,[vI e.inc,vI e.rank,vI e.beat,vI e.ver,.string e.data])] fun _ _ => ?_
   refine ⟨_,rfl,?_⟩
   refine Cm 2 st [(1,vI id),Ml 2 0,(4,vI 0),Ml 5 1,(17,vB true)] [(2,0,cSV s),(5,1,[vI e.inc,vI e.rank,vI e.beat,vI e.ver,.string e.data])] fun _ _ => ?_
   refine ⟨_,rfl,?_⟩
   refine ⟨_,rfl,(ac_spec_FloorOf s id st hR hb).mono ?_⟩
   rintro _ st ⟨rfl,rfl⟩
   exact cxs (Rt ⟨congrArg vI (by simp [goneAt,hk,← he]),rfl⟩)
  ·iterate 4 refine ⟨_,rfl,?_⟩
   refine Cm 2 st [(1,vI id),Ml 2 0,(4,vI 0),Ml 5 1,(6,vB true)] [(2,0,cSV s),(5,1,[vI e.inc,vI e.rank,vI e.beat,vI e.ver,.string e.data])] fun _ _ => ?_
   refine ⟨_,rfl,?_⟩
   refine Cm 2 st [(1,vI id),Ml 2 0,(4,vI 0),Ml 5 1,(17,vB false)] [(2,0,cSV s),(5,1,[vI e.inc,vI e.rank,vI e.beat,vI e.ver,.string e.data])] fun _ _ => ?_
   refine cxs ?_
   iterate 3 refine ⟨_,rfl,?_⟩
   rintro (_|_) h3
   ·replace h3 : ¬ (e.rank = 0) := beq_eq_false_iff_ne.1 h3
    refine Cm 2 st [(4,vI 0),Ml 5 1,(23,vB false)] [(5,1,[vI e.inc,vI e.rank,vI e.beat,vI e.ver,.string e.data])] fun _ _ => ?_
    refine cxs ?_
    iterate 2 refine ⟨_,rfl,?_⟩
    refine cxs ?_
    have hr := (ent_ok hk he).2.1
    have h4 : e.rank = 1 := by omega
    exact Rt ⟨congrArg vI (by simp [goneAt,hk,← he,h4]),rfl⟩
   ·replace h3 : e.rank = 0 := beq_iff_eq.1 h3
    refine Cm 2 st [(4,vI 0),Ml 5 1,(23,vB true)] [(5,1,[vI e.inc,vI e.rank,vI e.beat,vI e.ver,.string e.data])] fun _ _ => ?_
    iterate 2 refine ⟨_,rfl,?_⟩
    have hee := (ent_ok hk he).1
    have e26 : IntKind.wrap .i64 (e.inc - 1) = e.inc - 1 := wrap_i64 (by omega) (by omega)
    refine ⟨_,rfl,?_⟩
    exact cxs (Rt ⟨congrArg vI (by simp [goneAt,hk,← he,h3,e26]),rfl⟩)
def marksF (g : Int → Int) (i : Nat) : List Flr := (List.range i).filterMap fun (j : Nat) => if g (j : Int) > 0 then some ⟨(j : Int),g (j : Int)⟩ else none
theorem marksF_succ (g : Int → Int) (i : Nat) : marksF g (i + 1) = if g (i : Int) > 0 then marksF g i ++ [⟨(i : Int),g (i : Int)⟩] else marksF g i := by
 unfold marksF
 rw [List.range_succ,List.filterMap_append]
 split <;> simp [*]
theorem marksF_len (g : Int → Int) : ∀ i,(marksF g i).length ≤ i
 | 0 => by simp [marksF]
 | i + 1 => by
  have := marksF_len g i
  rw [marksF_succ]
  split <;> simp <;> omega
theorem ac_impl_MarksOf (s : SV) (st : St) (hR : RdS st s) (hb : bigS s.x) : C 52 [.agg #[vS s.p s.x.items.length,vS s.q s.x.floors.length]] st (fun v s' => ∃ q,v = vS q (marksF (goneAt s.x) 5).length ∧ OwnR s' 2 cFlr q (marksF (goneAt s.x) 5) ∧ Pres st s' ∧ New st.next q) := by
 refine AC.enterX (i := ⟨[1],[1],[0,1,2,3,4,5,8,15],[]⟩) [] Tryz.func52 rfl rfl (by kernel_rfl) (by kernel_rfl) Tryz.ntmps52 (Lb rfl) rfl ?_
 refine ⟨_,rfl,?_⟩
 refine Cm 1 st [Ml 1 0,(2,Sn)] [(1,0,cSV s)] fun _ _ => ?_
 refine op_nilK (z := 2) (f := cFlr) rfl rfl rfl rfl (by decide) rfl ?_
 intro q0 s0 hO0 hP0 hN0
 refine cxs ?_
 refine Cm 1 s0 [Ml 1 0,(2,Sn),(3,vS q0 0),(4,vI 0)] [(1,0,cSV s)] fun _ _ => ?_
 refine AW.loopM (fun x : Nat × Option Addr => [(1,vL 1 0 (0)),(3,vS x.2 (marksF (goneAt s.x) x.1).length),(4,vI (x.1 : Int))]) (fun x : Nat × Option Addr => [(1,0,[vS s.p s.x.items.length,vS s.q s.x.floors.length])]) (fun m (x : Nat × Option Addr) st' => m = 5 - x.1 ∧ x.1 ≤ 5 ∧ OwnR st' 2 cFlr x.2 (marksF (goneAt s.x) x.1) ∧ New st.next x.2 ∧ Pres st st') (0,q0) _ ⟨rfl,rfl,rfl,trivial⟩ ⟨rfl,trivial⟩ ⟨rfl,Nat.zero_le _,(show OwnR s0 2 cFlr q0 (marksF (goneAt s.x) 0) from hO0),hN0,hP0⟩ ?_
 rintro m x ρ0 ff gg st' ⟨rfl,hi,hO,hN,hP⟩
 have hml := marksF_len (goneAt s.x) x.1
 refine ⟨_,rfl,?_⟩
 rintro (_|_) h1
 ·replace h1 : ¬ ((x.1 : Int) < 5) := of_decide_eq_false h1
  refine Cm gg st' [Ml 1 0,(3,vS x.2 (marksF (goneAt s.x) x.1).length),(4,vI (x.1 : Int)),(8,vB false)] [(1,0,cSV s)] fun _ _ => ?_
  refine cxs ?_
  refine cxs ?_
  have hil : x.1 = 5 := by omega
  rw [hil] at hO
  exact Rt ⟨x.2,congrArg (fun i => vS x.2 (marksF (goneAt s.x) i).length) hil,hO,hP,hN⟩
 ·replace h1 : (x.1 : Int) < 5 := of_decide_eq_true h1
  refine Cm gg st' [Ml 1 0,(3,vS x.2 (marksF (goneAt s.x) x.1).length),(4,vI (x.1 : Int)),(8,vB true)] [(1,0,cSV s)] fun _ _ => ?_
  refine cxs ?_
  refine ⟨_,Od rfl,?_⟩
  refine ⟨_,rfl,(ac_impl_GoneAt s x.1 st' (hR.pres hP) hb).mono ?_⟩
  rintro _ st' ⟨rfl,rfl⟩
  refine Cm gg st' [Ml 1 0,(3,vS x.2 (marksF (goneAt s.x) x.1).length),(4,vI (x.1 : Int)),(5,vI (goneAt s.x (x.1 : Int))),(8,vB true)] [(1,0,cSV s)] fun _ _ => ?_
  refine ⟨_,rfl,?_⟩
  rintro (_|_) h2
  ·replace h2 : ¬ (goneAt s.x (x.1 : Int) > 0) := of_decide_eq_false h2
   refine Cm gg st' [Ml 1 0,(3,vS x.2 (marksF (goneAt s.x) x.1).length),(4,vI (x.1 : Int)),(5,vI (goneAt s.x (x.1 : Int))),(8,vB true),(15,vB false)] [(1,0,cSV s)] fun _ _ => ?_
   refine cxs ?_
   have e10 : IntKind.wrap .i64 ((x.1 : Int) + 1) = ((x.1 + 1 : Nat) : Int) := (wrap_i64 (by omega) (by omega)).trans (by omega)
   refine ⟨_,rfl,?_⟩
   have hm := marksF_succ (goneAt s.x) x.1
   rw [if_neg h2] at hm
   exact ⟨(x.1 + 1,x.2),5 - (x.1 + 1),by omega,⟨rfl,congrArg (fun l : List Flr => vS x.2 l.length) hm.symm,congrArg (Value.int .i64) e10,trivial⟩,⟨rfl,trivial⟩,rfl,by omega,by rw [hm]; exact hO,hN,hP⟩
  ·replace h2 : goneAt s.x (x.1 : Int) > 0 := of_decide_eq_true h2
   refine Cm gg st' [Ml 1 0,(3,vS x.2 (marksF (goneAt s.x) x.1).length),(4,vI (x.1 : Int)),(5,vI (goneAt s.x (x.1 : Int))),(8,vB true),(15,vB true)] [(1,0,cSV s)] fun _ _ => ?_
   refine ⟨_,rfl,?_⟩
   refine op_one (z := 2) (a := (⟨(x.1 : Int),goneAt s.x (x.1 : Int)⟩ : Flr)) (f := cFlr) rfl rfl rfl rfl rfl (by decide) rfl (Lb rfl) rfl rfl rfl ?_
   refine op_add (z := 2) (st := st') (f := cFlr) (b := 16) (l := marksF (goneAt s.x) x.1) rfl rfl rfl rfl rfl rfl rfl (by decide) len_cFlr rfl rfl rfl (by omega) (by unfold maxLen; omega) hO ?_
   intro q4 s4 hO4 hP4 hN4
   refine Cm gg s4 [Ml 1 0,(3,vS q4 ((marksF (goneAt s.x) x.1).length + 1)),(4,vI (x.1 : Int)),(5,vI (goneAt s.x (x.1 : Int))),(8,vB true),(15,vB true)] [(1,0,cSV s)] fun _ _ => ?_
   have e10 : IntKind.wrap .i64 ((x.1 : Int) + 1) = ((x.1 + 1 : Nat) : Int) := (wrap_i64 (by omega) (by omega)).trans (by omega)
   refine ⟨_,rfl,?_⟩
   have hm := marksF_succ (goneAt s.x) x.1
   rw [if_pos h2] at hm
   exact ⟨(x.1 + 1,q4),5 - (x.1 + 1),by omega,⟨rfl,(show vS q4 ((marksF (goneAt s.x) x.1).length + 1) = vS q4 (marksF (goneAt s.x) (x.1 + 1)).length by rw [hm,List.length_append]; rfl),congrArg (Value.int .i64) e10,trivial⟩,⟨rfl,trivial⟩,rfl,by omega,by rw [hm]; exact hO4,hN4.le hP.1,hP4.pres hP hN⟩
theorem ac_spec_MarksOf (s : SV) (st : St) (hR : RdS st s) (hb : bigS s.x) : C 162 [.agg #[vS s.p s.x.items.length,vS s.q s.x.floors.length]] st (fun v s' => ∃ q,v = vS q (marksF (goneAt s.x) 5).length ∧ OwnR s' 2 cFlr q (marksF (goneAt s.x) 5) ∧ Pres st s' ∧ New st.next q) := by
 refine AC.enterX (i := ⟨[1],[1],[0,1,2,3,4,5,8,15],[]⟩) [] Tryz.func162 rfl rfl (by kernel_rfl) (by kernel_rfl) Tryz.ntmps162 (Lb rfl) rfl ?_
 refine ⟨_,rfl,?_⟩
 refine Cm 1 st [Ml 1 0,(2,Sn)] [(1,0,cSV s)] fun _ _ => ?_
 refine op_nilK (z := 2) (f := cFlr) rfl rfl rfl rfl (by decide) rfl ?_
 intro q0 s0 hO0 hP0 hN0
 refine cxs ?_
 refine Cm 1 s0 [Ml 1 0,(2,Sn),(3,vS q0 0),(4,vI 0)] [(1,0,cSV s)] fun _ _ => ?_
 refine AW.loopM (fun x : Nat × Option Addr => [(1,vL 1 0 (0)),(3,vS x.2 (marksF (goneAt s.x) x.1).length),(4,vI (x.1 : Int))]) (fun x : Nat × Option Addr => [(1,0,[vS s.p s.x.items.length,vS s.q s.x.floors.length])]) (fun m (x : Nat × Option Addr) st' => m = 5 - x.1 ∧ x.1 ≤ 5 ∧ OwnR st' 2 cFlr x.2 (marksF (goneAt s.x) x.1) ∧ New st.next x.2 ∧ Pres st st') (0,q0) _ ⟨rfl,rfl,rfl,trivial⟩ ⟨rfl,trivial⟩ ⟨rfl,Nat.zero_le _,(show OwnR s0 2 cFlr q0 (marksF (goneAt s.x) 0) from hO0),hN0,hP0⟩ ?_
 rintro m x ρ0 ff gg st' ⟨rfl,hi,hO,hN,hP⟩
 have hml := marksF_len (goneAt s.x) x.1
 refine ⟨_,rfl,?_⟩
 rintro (_|_) h1
 ·replace h1 : ¬ ((x.1 : Int) < 5) := of_decide_eq_false h1
  refine Cm gg st' [Ml 1 0,(3,vS x.2 (marksF (goneAt s.x) x.1).length),(4,vI (x.1 : Int)),(8,vB false)] [(1,0,cSV s)] fun _ _ => ?_
  refine cxs ?_
  refine cxs ?_
  have hil : x.1 = 5 := by omega
  rw [hil] at hO
  exact Rt ⟨x.2,congrArg (fun i => vS x.2 (marksF (goneAt s.x) i).length) hil,hO,hP,hN⟩
 ·replace h1 : (x.1 : Int) < 5 := of_decide_eq_true h1
  refine Cm gg st' [Ml 1 0,(3,vS x.2 (marksF (goneAt s.x) x.1).length),(4,vI (x.1 : Int)),(8,vB true)] [(1,0,cSV s)] fun _ _ => ?_
  refine cxs ?_
  refine ⟨_,Od rfl,?_⟩
  refine ⟨_,rfl,(ac_spec_GoneAt s x.1 st' (hR.pres hP) hb).mono ?_⟩
  rintro _ st' ⟨rfl,rfl⟩
  refine Cm gg st' [Ml 1 0,(3,vS x.2 (marksF (goneAt s.x) x.1).length),(4,vI (x.1 : Int)),(5,vI (goneAt s.x (x.1 : Int))),(8,vB true)] [(1,0,cSV s)] fun _ _ => ?_
  refine ⟨_,rfl,?_⟩
  rintro (_|_) h2
  ·replace h2 : ¬ (goneAt s.x (x.1 : Int) > 0) := of_decide_eq_false h2
   refine Cm gg st' [Ml 1 0,(3,vS x.2 (marksF (goneAt s.x) x.1).length),(4,vI (x.1 : Int)),(5,vI (goneAt s.x (x.1 : Int))),(8,vB true),(15,vB false)] [(1,0,cSV s)] fun _ _ => ?_
   refine cxs ?_
   have e10 : IntKind.wrap .i64 ((x.1 : Int) + 1) = ((x.1 + 1 : Nat) : Int) := (wrap_i64 (by omega) (by omega)).trans (by omega)
   refine ⟨_,rfl,?_⟩
   have hm := marksF_succ (goneAt s.x) x.1
   rw [if_neg h2] at hm
   exact ⟨(x.1 + 1,x.2),5 - (x.1 + 1),by omega,⟨rfl,congrArg (fun l : List Flr => vS x.2 l.length) hm.symm,congrArg (Value.int .i64) e10,trivial⟩,⟨rfl,trivial⟩,rfl,by omega,by rw [hm]; exact hO,hN,hP⟩
  ·replace h2 : goneAt s.x (x.1 : Int) > 0 := of_decide_eq_true h2
   refine Cm gg st' [Ml 1 0,(3,vS x.2 (marksF (goneAt s.x) x.1).length),(4,vI (x.1 : Int)),(5,vI (goneAt s.x (x.1 : Int))),(8,vB true),(15,vB true)] [(1,0,cSV s)] fun _ _ => ?_
   refine ⟨_,rfl,?_⟩
   refine op_one (z := 2) (a := (⟨(x.1 : Int),goneAt s.x (x.1 : Int)⟩ : Flr)) (f := cFlr) rfl rfl rfl rfl rfl (by decide) rfl (Lb rfl) rfl rfl rfl ?_
   refine op_add (z := 2) (st := st') (f := cFlr) (b := 16) (l := marksF (goneAt s.x) x.1) rfl rfl rfl rfl rfl rfl rfl (by decide) len_cFlr rfl rfl rfl (by omega) (by unfold maxLen; omega) hO ?_
   intro q4 s4 hO4 hP4 hN4
   refine Cm gg s4 [Ml 1 0,(3,vS q4 ((marksF (goneAt s.x) x.1).length + 1)),(4,vI (x.1 : Int)),(5,vI (goneAt s.x (x.1 : Int))),(8,vB true),(15,vB true)] [(1,0,cSV s)] fun _ _ => ?_
   have e10 : IntKind.wrap .i64 ((x.1 : Int) + 1) = ((x.1 + 1 : Nat) : Int) := (wrap_i64 (by omega) (by omega)).trans (by omega)
   refine ⟨_,rfl,?_⟩
   have hm := marksF_succ (goneAt s.x) x.1
   rw [if_pos h2] at hm
   exact ⟨(x.1 + 1,q4),5 - (x.1 + 1),by omega,⟨rfl,(show vS q4 ((marksF (goneAt s.x) x.1).length + 1) = vS q4 (marksF (goneAt s.x) (x.1 + 1)).length by rw [hm,List.length_append]; rfl),congrArg (Value.int .i64) e10,trivial⟩,⟨rfl,trivial⟩,rfl,by omega,by rw [hm]; exact hO4,hN4.le hP.1,hP4.pres hP hN⟩
abbrev fB : Int → List Value := fun x => [.int .u8 x]
theorem fB_len (x : Int) : (fB x).length = 1 := rfl
section
variable {P : Program} {ls : List Tmp} {call : ACallT} {o : Oper} {e : Operand → Value} {lo : Lo} {st : St}
theorem op_quo {t ty : TypeId} {x y : Operand} {k : IntKind} {a b : Int} (ho : o.op = .binOp .quo t x y ty) (hx : e x = .int k a) (hy : e y = .int k b) (hb : b ≠ 0) : aoper P ls call o e lo st = some (.int k (k.wrap (a.tdiv b)),lo,st) := by
 obtain ⟨d,op,tt,pos,after,gd⟩ := o
 simp only at ho
 subst ho
 simp [aoper,rop,hx,hy,abin,aint,hb]
end
theorem wrap_u8 {i : Int} (h0 : 0 ≤ i) (h : i < 256) : IntKind.wrap .u8 i = i := by
 unfold IntKind.wrap; simp [IntKind.bits,IntKind.signed]; omega
theorem len_cSV (s : SV) : (cSV s).length = 2 := rfl
def RdL (st : St) (p : Option Addr) (l : List SV) : Prop := Rows st 2 cSV p l ∧ ∀ s ∈ l,RdS st s
abbrev pcL (p : Option Addr) (l : List SV) : List Pc := pcR 2 cSV p l :: l.flatMap pcS
theorem RdL.pres {st st' : St} {p : Option Addr} {l : List SV} (h : RdL st p l) (k : Pres st st') : RdL st' p l := ⟨k.rows h.1,fun s hs => (h.2 s hs).pres k⟩
theorem OwnP.louter {st : St} {p : Option Addr} {l : List SV} {m : List Pc} (h : OwnP st (pcR 2 cSV p l :: m)) : OwnR st 2 cSV p l := pc_own (by decide) len_cSV (h.1 _ (List.mem_cons_self ..))
theorem OwnP.sub {st : St} {l m : List Pc} (h : OwnP st l) (hs : m.Sublist l) : OwnP st m := ⟨fun c hc => h.1 c (hs.subset hc),h.2.sublist hs⟩
theorem OwnP.state {st : St} {l : List SV} {s : SV} (h : OwnP st (l.flatMap pcS)) (hs : s ∈ l) : OwnP st (pcS s) := by
 obtain ⟨i,hi⟩ := List.getElem?_of_mem hs
 rw [(split_at' hi).1,List.flatMap_append,List.flatMap_cons] at h
 exact OwnP.left (OwnP.right h)
theorem OwnP.rdL {st : St} {p : Option Addr} {l : List SV} (h : OwnP st (pcL p l)) : RdL st p l := ⟨h.louter.rows len_cSV,fun s hs => (h.tail.state hs).rdS⟩
def bigL (l : List SV) : Prop := szOk l.length ∧ ∀ s ∈ l,bigS s.x
structure Lg where
 cap : Int
 frm : Int
 list : List Sta
structure LV where
 cap : Int
 frm : Int
 p : Option Addr
 l : List SV
abbrev LV.x (g : LV) : Lg := ⟨g.cap,g.frm,g.l.map (·.x)⟩
def logOk (g : Lg) : Prop := (1 ≤ g.cap ∧ g.cap ≤ 8) ∧ (g.list.length : Int) ≤ g.cap ∧ (0 ≤ g.frm ∧ g.frm ≤ 100000) ∧ g.frm + (g.list.length : Int) ≤ 100000 ∧ ∀ s ∈ g.list,stateOk s
theorem states_of {l : List SV} {P : Sta → Prop} (h : ∀ s ∈ l.map (·.x),P s) {i : Nat} {s : SV} (hs : l[i]? = some s) : P s.x := h _ (List.mem_map_of_mem (List.mem_of_getElem? hs))
theorem states_to {l : List SV} {P : Sta → Prop} (h : ∀ (j : Nat) s,l[j]? = some s → P s.x) : ∀ s ∈ l.map (·.x),P s := fun s hs => by
 obtain ⟨r,hr,rfl⟩ := List.mem_map.1 hs
 obtain ⟨i,hi⟩ := List.getElem?_of_mem hr
 exact h i r hi
theorem ac_spec_LogOk (g : LV) (st : St) (hR : RdL st g.p g.l) (hb : bigL g.l) : C 75 [.agg #[vI g.cap,vI g.frm,vS g.p g.l.length]] st (fun v s => ∃ x,v = .bool x ∧ (x = true ↔ logOk g.x) ∧ s = st) := by
 have hs : g.l.length ≤ 1048576 := hb.1
 have hgl : g.x.list.length = g.l.length := List.length_map _
 refine AC.enterX (i := ⟨[1],[1,4,9,12,17,23,25,32,38],[0,1,2,3,30,35,44],[]⟩) [] Tryz.func75 rfl rfl (by kernel_rfl) (by kernel_rfl) Tryz.ntmps75 (Lb rfl) rfl ?_
 refine ⟨_,rfl,?_⟩
 refine Cm 1 st [Ml 1 0,(2,vB false)] [(1,0,[vI g.cap,vI g.frm,vS g.p g.l.length])] fun _ _ => ?_
 iterate 2 refine ⟨_,rfl,?_⟩
 refine ⟨_,rfl,(ac_spec_l1In g.cap 1 8 st).mono ?_⟩
 rintro _ st ⟨a,rfl,h1,rfl⟩
 rcases a with _|_
 ·replace h1 := of_decide_eq_false h1.symm
  iterate 4 refine ⟨_,rfl,?_⟩
  refine Cm 1 st [Ml 1 0,(2,vB false),(30,vB true)] [(1,0,[vI g.cap,vI g.frm,vS g.p g.l.length])] fun _ _ => ?_
  exact cxs (Rt ⟨false,rfl,⟨fun h => absurd h Bool.false_ne_true,fun h => absurd h.1 h1⟩,rfl⟩)
 ·replace h1 := of_decide_eq_true h1.symm
  iterate 7 refine ⟨_,rfl,?_⟩
  rintro (_|_) h2
  ·replace h2 : ¬ ((g.l.length : Int) > g.cap) := of_decide_eq_false h2
   iterate 3 refine ⟨_,rfl,?_⟩
   refine ⟨_,rfl,(ac_spec_l1In g.frm 0 100000 st).mono ?_⟩
   rintro _ st ⟨b,rfl,h3,rfl⟩
   rcases b with _|_
   ·replace h3 := of_decide_eq_false h3.symm
    iterate 3 refine ⟨_,rfl,?_⟩
    refine Cm 1 st [Ml 1 0,(2,vB false),(30,vB true)] [(1,0,[vI g.cap,vI g.frm,vS g.p g.l.length])] fun _ _ => ?_
    exact cxs (Rt ⟨false,rfl,⟨fun h => absurd h Bool.false_ne_true,fun h => absurd h.2.2.1 h3⟩,rfl⟩)
   ·replace h3 := of_decide_eq_true h3.symm
    iterate 9 refine ⟨_,rfl,?_⟩
    rintro (_|_) h4
    ·replace h4 : ¬ (IntKind.wrap .i64 (g.frm + (g.l.length : Int)) > 100000) := of_decide_eq_false h4
     refine ⟨_,rfl,?_⟩
     refine Cm 1 st [Ml 1 0,(2,vB false),(30,vB false)] [(1,0,[vI g.cap,vI g.frm,vS g.p g.l.length])] fun _ _ => ?_
     have e28 : IntKind.wrap .i64 (g.frm + (g.l.length : Int)) = g.frm + (g.l.length : Int) := wrap_i64 (by omega) (by omega)
     rw [e28] at h4
     refine cxs ?_
     refine Cm 1 st [Ml 1 0,(2,vB false),(3,vI 0)] [(1,0,[vI g.cap,vI g.frm,vS g.p g.l.length])] fun _ _ => ?_
     refine AW.loopM (fun i : Nat => [(1,vL 1 0 (0)),(3,vI (i : Int))]) (fun i : Nat => [(1,0,[vI g.cap,vI g.frm,vS g.p g.l.length])]) (fun m (i : Nat) st' => m = g.l.length - i ∧ i ≤ g.l.length ∧ (∀ (j : Nat) s,j < i → g.l[j]? = some s → stateOk s.x) ∧ st = st') 0 _ ⟨rfl,rfl,trivial⟩ ⟨rfl,trivial⟩ ⟨rfl,Nat.zero_le _,fun j s h => absurd h (Nat.not_lt_zero _),rfl⟩ ?_
     rintro m i ρ0 ff gg st' ⟨rfl,hi,hok,rfl⟩
     refine ⟨_,rfl,?_⟩
     refine ⟨_,Od rfl,?_⟩
     iterate 2 refine ⟨_,rfl,?_⟩
     rintro (_|_) h5
     ·replace h5 : ¬ ((i : Int) < (g.l.length : Int)) := of_decide_eq_false h5
      refine Cm gg st [Ml 1 0,(3,vI (i : Int)),(35,vB false)] [(1,0,[vI g.cap,vI g.frm,vS g.p g.l.length])] fun _ _ => ?_
      refine cxs ?_
      refine cxs ?_
      refine ⟨.inl rfl,_,rfl,true,rfl,⟨fun _ => ⟨h1,by rw [hgl]; show (g.l.length : Int) ≤ g.cap; omega,h3,by rw [hgl]; show g.frm + (g.l.length : Int) ≤ 100000; omega,states_to fun j s hs => hok j s (by have := (List.getElem?_eq_some_iff.1 hs).1; omega) hs⟩,fun _ => rfl⟩,rfl⟩
     ·replace h5 : (i : Int) < (g.l.length : Int) := of_decide_eq_true h5
      refine Cm gg st [Ml 1 0,(3,vI (i : Int)),(35,vB true)] [(1,0,[vI g.cap,vI g.frm,vS g.p g.l.length])] fun _ _ => ?_
      have h5' := Int.ofNat_lt.1 h5
      have ⟨b1,o1,k1,r,hpe,hr1,hm1,hc1⟩ := hR.1.at h5'
      have hmem := List.mem_of_getElem? hr1
      refine cxs ?_
      refine ⟨_,rfl,?_⟩
      refine ⟨_,Od rfl,?_⟩
      refine ⟨_,op_idx (j := (i : Int)) (n := g.l.length) (q := ⟨b1,o1,none⟩) rfl (congrArg (fun u => vS u g.l.length) hpe) rfl rfl rfl (Int.natCast_nonneg _) h5,?_⟩
      refine ⟨_,op_lda rfl rfl rfl rfl rfl hm1 hc1 rfl,?_⟩
      refine ⟨_,rfl,(ac_spec_StateOk r st (hR.2 r hmem) (hb.2 r hmem)).mono ?_⟩
      rintro _ st ⟨c,rfl,h6,rfl⟩
      rcases c with _|_
      ·replace h6 := fun k => Bool.false_ne_true (h6.2 k)
       refine ⟨_,rfl,?_⟩
       refine Cm gg st [Ml 1 0,(3,vI (i : Int)),(35,vB true),(44,vB true)] [(1,0,[vI g.cap,vI g.frm,vS g.p g.l.length])] fun _ _ => ?_
       exact cxs (Rt ⟨false,rfl,⟨fun h => absurd h Bool.false_ne_true,fun h => absurd (states_of h.2.2.2.2 hr1) h6⟩,rfl⟩)
      ·replace h6 := h6.1 rfl
       refine ⟨_,rfl,?_⟩
       refine Cm gg st [Ml 1 0,(3,vI (i : Int)),(35,vB true),(44,vB false)] [(1,0,[vI g.cap,vI g.frm,vS g.p g.l.length])] fun _ _ => ?_
       refine cxs ?_
       have e37 : IntKind.wrap .i64 ((i : Int) + 1) = ((i + 1 : Nat) : Int) := (wrap_i64 (by omega) (by omega)).trans (by omega)
       refine ⟨_,rfl,?_⟩
       refine ⟨i + 1,g.l.length - (i + 1),by omega,⟨rfl,congrArg (Value.int .i64) e37,trivial⟩,⟨rfl,trivial⟩,rfl,h5',fun j s hj hs => ?_,rfl⟩
       rcases Nat.lt_or_ge j i with h | h
       ·exact hok j s h hs
       ·obtain rfl : j = i := by omega
        rw [hr1] at hs
        injection hs with hs
        rw [← hs]; exact h6
    ·replace h4 : IntKind.wrap .i64 (g.frm + (g.l.length : Int)) > 100000 := of_decide_eq_true h4
     refine ⟨_,rfl,?_⟩
     refine Cm 1 st [Ml 1 0,(2,vB false),(30,vB true)] [(1,0,[vI g.cap,vI g.frm,vS g.p g.l.length])] fun _ _ => ?_
     have e28 : IntKind.wrap .i64 (g.frm + (g.l.length : Int)) = g.frm + (g.l.length : Int) := wrap_i64 (by omega) (by omega)
     rw [e28] at h4
     exact cxs (Rt ⟨false,rfl,⟨fun h => absurd h Bool.false_ne_true,fun h => absurd h.2.2.2.1 (by rw [hgl]; show ¬ g.frm + (g.l.length : Int) ≤ 100000; omega)⟩,rfl⟩)
  ·replace h2 : (g.l.length : Int) > g.cap := of_decide_eq_true h2
   iterate 3 refine ⟨_,rfl,?_⟩
   refine Cm 1 st [Ml 1 0,(2,vB false),(30,vB true)] [(1,0,[vI g.cap,vI g.frm,vS g.p g.l.length])] fun _ _ => ?_
   exact cxs (Rt ⟨false,rfl,⟨fun h => absurd h Bool.false_ne_true,fun h => absurd h.2.1 (by rw [hgl]; show ¬ (g.l.length : Int) ≤ g.cap; omega)⟩,rfl⟩)
theorem ac_impl_LogOk (g : LV) (st : St) (hR : RdL st g.p g.l) (hb : bigL g.l) : C 64 [.agg #[vI g.cap,vI g.frm,vS g.p g.l.length]] st (fun v s => ∃ x,v = .bool x ∧ (x = true ↔ logOk g.x) ∧ s = st) := by
 have hs : g.l.length ≤ 1048576 := hb.1
 have hgl : g.x.list.length = g.l.length := List.length_map _
 refine AC.enterX (i := ⟨[1,4],[1,4,5,16,20,23,28,33,35],[0,1,2,4,6,7,8,9,14],[]⟩) [] Tryz.func64 rfl rfl (by kernel_rfl) (by kernel_rfl) Tryz.ntmps64 (Lb rfl) rfl ?_
 refine ⟨_,rfl,?_⟩
 refine Cm 1 st [Ml 1 0,(2,vB false)] [(1,0,[vI g.cap,vI g.frm,vS g.p g.l.length])] fun _ _ => ?_
 iterate 3 refine ⟨_,rfl,?_⟩
 refine Cm 1 st [Ml 1 0,(2,vB false),(6,vS g.p g.l.length),(7,vI (g.l.length)),(8,vI 0)] [(1,0,[vI g.cap,vI g.frm,vS g.p g.l.length])] fun _ _ => ?_
 refine AW.loopM (fun i : Nat => [(1,vL 1 0 (0)),(6,vS g.p g.l.length),(7,vI (g.l.length : Int)),(8,vI (i : Int))]) (fun i : Nat => [(1,0,[vI g.cap,vI g.frm,vS g.p g.l.length])]) (fun m (i : Nat) st' => m = g.l.length - i ∧ i ≤ g.l.length ∧ (∀ (j : Nat) s,j < i → g.l[j]? = some s → stateOk s.x) ∧ st = st') 0 _ ⟨rfl,rfl,rfl,rfl,trivial⟩ ⟨rfl,trivial⟩ ⟨rfl,Nat.zero_le _,fun j s h => absurd h (Nat.not_lt_zero _),rfl⟩ ?_
 rintro m i ρ0 ff gg st' ⟨rfl,hi,hok,rfl⟩
 refine ⟨_,rfl,?_⟩
 rintro (_|_) h5
 ·replace h5 : ¬ ((i : Int) < (g.l.length : Int)) := of_decide_eq_false h5
  refine Cm gg st [Ml 1 0,(6,vS g.p g.l.length),(7,vI (g.l.length : Int)),(8,vI (i : Int)),(9,vB false)] [(1,0,[vI g.cap,vI g.frm,vS g.p g.l.length])] fun _ _ => ?_
  refine cxs ?_
  refine ⟨_,rfl,?_⟩
  refine ⟨_,Od rfl,?_⟩
  refine ⟨_,rfl,(ac_impl_within g.cap 1 8 st).mono ?_⟩
  rintro _ st ⟨a,rfl,h1,rfl⟩
  rcases a with _|_
  ·replace h1 := of_decide_eq_false h1.symm
   iterate 3 refine ⟨_,rfl,?_⟩
   exact cxs (Rt ⟨false,rfl,⟨fun h => absurd h Bool.false_ne_true,fun h => absurd h.1 h1⟩,rfl⟩)
  ·replace h1 := of_decide_eq_true h1.symm
   refine ⟨_,rfl,?_⟩
   refine ⟨_,Od rfl,?_⟩
   iterate 2 refine ⟨_,rfl,?_⟩
   refine ⟨_,Od rfl,?_⟩
   refine ⟨_,rfl,?_⟩
   rintro (_|_) h2
   ·replace h2 : ¬ ((g.l.length : Int) ≤ g.cap) := of_decide_eq_false h2
    iterate 3 refine ⟨_,rfl,?_⟩
    exact cxs (Rt ⟨false,rfl,⟨fun h => absurd h Bool.false_ne_true,fun h => absurd h.2.1 (by rw [hgl]; exact h2)⟩,rfl⟩)
   ·replace h2 : (g.l.length : Int) ≤ g.cap := of_decide_eq_true h2
    iterate 2 refine ⟨_,rfl,?_⟩
    refine ⟨_,Od rfl,?_⟩
    refine ⟨_,rfl,(ac_impl_within g.frm 0 100000 st).mono ?_⟩
    rintro _ st ⟨b,rfl,h3,rfl⟩
    rcases b with _|_
    ·replace h3 := of_decide_eq_false h3.symm
     iterate 2 refine ⟨_,rfl,?_⟩
     exact cxs (Rt ⟨false,rfl,⟨fun h => absurd h Bool.false_ne_true,fun h => absurd h.2.2.1 h3⟩,rfl⟩)
    ·replace h3 := of_decide_eq_true h3.symm
     iterate 2 refine ⟨_,rfl,?_⟩
     refine ⟨_,Od rfl,?_⟩
     refine ⟨_,rfl,?_⟩
     refine ⟨_,Od rfl,?_⟩
     refine ⟨_,rfl,?_⟩
     have e38 : IntKind.wrap .i64 (g.frm + (g.l.length : Int)) = g.frm + (g.l.length : Int) := wrap_i64 (by omega) (by omega)
     iterate 2 refine ⟨_,rfl,?_⟩
     rintro (_|_) h4
     ·replace h4 : ¬ (IntKind.wrap .i64 (g.frm + (g.l.length : Int)) ≤ 100000) := of_decide_eq_false h4
      refine ⟨_,rfl,?_⟩
      exact cxs (Rt ⟨false,rfl,⟨fun h => absurd h Bool.false_ne_true,fun h => absurd h.2.2.2.1 (by rw [hgl,← e38]; exact h4)⟩,rfl⟩)
     ·replace h4 : IntKind.wrap .i64 (g.frm + (g.l.length : Int)) ≤ 100000 := of_decide_eq_true h4
      refine ⟨_,rfl,?_⟩
      exact cxs (Rt ⟨true,rfl,⟨fun _ => ⟨h1,by rw [hgl]; exact h2,h3,by rw [hgl,← e38]; exact h4,states_to fun j s hs => hok j s (by have := (List.getElem?_eq_some_iff.1 hs).1; omega) hs⟩,fun _ => rfl⟩,rfl⟩)
 ·replace h5 : (i : Int) < (g.l.length : Int) := of_decide_eq_true h5
  refine Cm gg st [Ml 1 0,(6,vS g.p g.l.length),(7,vI (g.l.length : Int)),(8,vI (i : Int)),(9,vB true)] [(1,0,[vI g.cap,vI g.frm,vS g.p g.l.length])] fun _ _ => ?_
  have h5' := Int.ofNat_lt.1 h5
  have ⟨b1,o1,k1,r,hpe,hr1,hm1,hc1⟩ := hR.1.at h5'
  have hmem := List.mem_of_getElem? hr1
  refine cxs ?_
  refine ⟨_,op_idx (j := (i : Int)) (n := g.l.length) (q := ⟨b1,o1,none⟩) rfl (congrArg (fun u => vS u g.l.length) hpe) rfl rfl rfl (Int.natCast_nonneg _) h5,?_⟩
  refine ⟨_,op_lda rfl rfl rfl rfl rfl hm1 hc1 rfl,?_⟩
  refine ⟨_,rfl,?_⟩
  refine ⟨_,Os rfl,?_⟩
  refine Cm (gg + 1) st [Ml 1 0,Ml 4 gg,(6,vS g.p g.l.length),(7,vI (g.l.length : Int)),(8,vI (i : Int)),(9,vB true)] [(1,0,[vI g.cap,vI g.frm,vS g.p g.l.length]),(4,gg,cSV r)] fun _ _ => ?_
  refine ⟨_,Od rfl,?_⟩
  refine ⟨_,rfl,(ac_impl_StateOk r st (hR.2 r hmem) (hb.2 r hmem)).mono ?_⟩
  rintro _ st ⟨c,rfl,h6,rfl⟩
  rcases c with _|_
  ·replace h6 := fun k => Bool.false_ne_true (h6.2 k)
   refine ⟨_,rfl,?_⟩
   refine Cm (gg + 1) st [Ml 1 0,Ml 4 gg,(6,vS g.p g.l.length),(7,vI (g.l.length : Int)),(8,vI (i : Int)),(9,vB true),(14,vB true)] [(1,0,[vI g.cap,vI g.frm,vS g.p g.l.length]),(4,gg,cSV r)] fun _ _ => ?_
   exact cxs (Rt ⟨false,rfl,⟨fun h => absurd h Bool.false_ne_true,fun h => absurd (states_of h.2.2.2.2 hr1) h6⟩,rfl⟩)
  ·replace h6 := h6.1 rfl
   refine ⟨_,rfl,?_⟩
   refine Cm (gg + 1) st [Ml 1 0,Ml 4 gg,(6,vS g.p g.l.length),(7,vI (g.l.length : Int)),(8,vI (i : Int)),(9,vB true),(14,vB false)] [(1,0,[vI g.cap,vI g.frm,vS g.p g.l.length]),(4,gg,cSV r)] fun _ _ => ?_
   refine cxs ?_
   have e15 : IntKind.wrap .i64 ((i : Int) + 1) = ((i + 1 : Nat) : Int) := (wrap_i64 (by omega) (by omega)).trans (by omega)
   refine ⟨_,rfl,?_⟩
   refine ⟨i + 1,g.l.length - (i + 1),by omega,⟨rfl,rfl,rfl,congrArg (Value.int .i64) e15,trivial⟩,⟨rfl,trivial⟩,rfl,h5',fun j s hj hs => ?_,rfl⟩
   rcases Nat.lt_or_ge j i with h | h
   ·exact hok j s h hs
   ·obtain rfl : j = i := by omega
    rw [hr1] at hs
    injection hs with hs
    rw [← hs]; exact h6
theorem bigL_of {u l : List SV} (h : u.map (·.x) = l.map (·.x)) (hb : bigL l) : bigL u := by
 have hl := congrArg List.length h
 simp only [List.length_map] at hl
 refine ⟨by rw [hl]; exact hb.1,fun s hs => ?_⟩
 have : s.x ∈ l.map (·.x) := by rw [← h]; exact List.mem_map_of_mem hs
 obtain ⟨r,hr,he⟩ := List.mem_map.1 this
 rw [← he]; exact hb.2 r hr
theorem PrL.newS {s : SV} {n : Nat} (hN : NewP n (pcS s)) : ∀ p ∈ [s.p,s.q],New n p := fun p hp => by
 rcases List.mem_cons.1 hp with rfl | hp
 ·exact hN _ (List.mem_cons_self ..)
 ·rw [List.mem_singleton.1 hp]; exact hN (pcR 2 cFlr s.q s.x.floors) (List.mem_cons_of_mem _ (List.mem_cons_self ..))
theorem PrL.ownR {α : Type} {st st' : St} {ps : List (Option Addr)} {z : Nat} {f : α → List Value} {q : Option Addr} {l : List α} (h0 : 0 < z) (hz : ∀ x,(f x).length = z) (h : PrL ps st st') (hO : OwnR st z f q l) (hd : ∀ p ∈ ps,Dis p q) : OwnR st' z f q l :=
 pc_own h0 hz ((OwnP.prl (OwnP.one (own_pc hO)) h fun c hc p hp => by rw [List.mem_singleton.1 hc]; exact hd p hp).1 _ (List.mem_singleton_self _))
end Go.Proofs.YtpnolkhfeliehaaGreat.AM
