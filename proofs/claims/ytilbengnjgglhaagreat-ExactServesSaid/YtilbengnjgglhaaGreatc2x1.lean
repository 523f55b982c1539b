/- ExactServes: for every input the given law returns true, and its arguments read as before. No condition. -/
import Derived.Test.YtilbengnjgglhaaGreatChecked
import Derived.Test.YtilbengnjgglhaaGreatc2x0
import Derived.KernelRfl
import Derived.Maps.AppendAt
import Derived.Lib.Overlaps
namespace Go.Proofs.YtilbengnjgglhaaGreat
def TtL:List (Nat×TyI):=[
 (1,⟨(Go.TypeDesc.func #[] #[] false),1,8,Go.Value.nilFunc,[]⟩),
 (2,⟨(Go.TypeDesc.int Go.IntKind.i64),1,8,(Go.Value.int Go.IntKind.i64 0),[]⟩),
 (3,⟨(Go.TypeDesc.int Go.IntKind.i64),1,8,(Go.Value.int Go.IntKind.i64 0),[]⟩),
 (4,⟨Go.TypeDesc.bool,1,1,(Go.Value.bool false),[]⟩),
 (5,⟨(Go.TypeDesc.int Go.IntKind.u8),1,1,(Go.Value.int Go.IntKind.u8 0),[]⟩),
 (9,⟨Go.TypeDesc.string,1,16,(Go.Value.string { data:= #[] }),[]⟩),
 (12,⟨(Go.TypeDesc.int Go.IntKind.u64),1,8,(Go.Value.int Go.IntKind.u64 0),[]⟩),
 (21,⟨(Go.TypeDesc.int Go.IntKind.i32),1,4,(Go.Value.int Go.IntKind.i32 0),[]⟩),
 (22,⟨(Go.TypeDesc.slice 63),1,24,(Go.Value.slice none 0 0),[]⟩),
 (23,⟨(Go.TypeDesc.struct #[]),2,32,(Go.Value.agg #[(Go.Value.int Go.IntKind.i64 0),(Go.Value.slice none 0 0)]),[some (0,1,false),some (1,1,false)]⟩),
 (24,⟨(Go.TypeDesc.struct #[]),2,32,(Go.Value.agg #[(Go.Value.int Go.IntKind.i64 0),(Go.Value.slice none 0 0)]),[some (0,1,false),some (1,1,false)]⟩),
 (25,⟨(Go.TypeDesc.slice 61),1,24,(Go.Value.slice none 0 0),[]⟩),
 (26,⟨(Go.TypeDesc.slice 65),1,24,(Go.Value.slice none 0 0),[]⟩),
 (27,⟨(Go.TypeDesc.struct #[]),6,96,(Go.Value.agg #[(Go.Value.int Go.IntKind.i64 0),(Go.Value.slice none 0 0),(Go.Value.slice none 0 0),(Go.Value.slice none 0 0),(Go.Value.int Go.IntKind.i64 0),(Go.Value.int Go.IntKind.i64 0)]),[some (0,2,true),some (2,1,false),some (3,1,false),some (4,1,false),some (5,1,false)]⟩),
 (28,⟨(Go.TypeDesc.struct #[]),6,96,(Go.Value.agg #[(Go.Value.int Go.IntKind.i64 0),(Go.Value.slice none 0 0),(Go.Value.slice none 0 0),(Go.Value.slice none 0 0),(Go.Value.int Go.IntKind.i64 0),(Go.Value.int Go.IntKind.i64 0)]),[some (0,2,true),some (2,1,false),some (3,1,false),some (4,1,false),some (5,1,false)]⟩),
 (29,⟨(Go.TypeDesc.slice 3),1,24,(Go.Value.slice none 0 0),[]⟩),
 (30,⟨(Go.TypeDesc.func #[28,29] #[4] false),1,8,Go.Value.nilFunc,[]⟩),
 (31,⟨(Go.TypeDesc.func #[] #[4] false),1,8,Go.Value.nilFunc,[]⟩),
 (32,⟨(Go.TypeDesc.struct #[]),2,32,(Go.Value.agg #[(Go.Value.int Go.IntKind.i64 0),(Go.Value.slice none 0 0)]),[some (0,1,false),some (1,1,false)]⟩),
 (33,⟨(Go.TypeDesc.struct #[]),2,32,(Go.Value.agg #[(Go.Value.int Go.IntKind.i64 0),(Go.Value.slice none 0 0)]),[some (0,1,false),some (1,1,false)]⟩),
 (34,⟨(Go.TypeDesc.int Go.IntKind.i64),1,8,(Go.Value.int Go.IntKind.i64 0),[]⟩),
 (36,⟨(Go.TypeDesc.func #[28,3,29] #[33,3,34] false),1,8,Go.Value.nilFunc,[]⟩),
 (37,⟨(Go.TypeDesc.func #[29,29] #[4] false),1,8,Go.Value.nilFunc,[]⟩),
 (38,⟨(Go.TypeDesc.func #[28,3,29] #[4] false),1,8,Go.Value.nilFunc,[]⟩),
 (40,⟨(Go.TypeDesc.func #[28,3,29] #[4,34] false),1,8,Go.Value.nilFunc,[]⟩),
 (42,⟨(Go.TypeDesc.func #[28,3,29] #[29,34] false),1,8,Go.Value.nilFunc,[]⟩),
 (43,⟨(Go.TypeDesc.func #[28] #[4] false),1,8,Go.Value.nilFunc,[]⟩),
 (44,⟨(Go.TypeDesc.func #[3] #[28] false),1,8,Go.Value.nilFunc,[]⟩),
 (45,⟨(Go.TypeDesc.func #[28,3,29] #[34] false),1,8,Go.Value.nilFunc,[]⟩),
 (47,⟨(Go.TypeDesc.func #[28,3,29] #[33,3,4] false),1,8,Go.Value.nilFunc,[]⟩),
 (48,⟨(Go.TypeDesc.struct #[]),3,40,(Go.Value.agg #[(Go.Value.bool false),(Go.Value.int Go.IntKind.i64 0),(Go.Value.slice none 0 0)]),[some (0,1,false),some (1,1,false),some (2,1,false)]⟩),
 (49,⟨(Go.TypeDesc.struct #[]),3,40,(Go.Value.agg #[(Go.Value.bool false),(Go.Value.int Go.IntKind.i64 0),(Go.Value.slice none 0 0)]),[some (0,1,false),some (1,1,false),some (2,1,false)]⟩),
 (50,⟨(Go.TypeDesc.func #[28,3,29] #[49] false),1,8,Go.Value.nilFunc,[]⟩),
 (51,⟨(Go.TypeDesc.func #[53] #[29] false),1,8,Go.Value.nilFunc,[]⟩),
 (52,⟨(Go.TypeDesc.func #[68] #[] false),1,8,Go.Value.nilFunc,[]⟩),
 (53,⟨(Go.TypeDesc.func #[68] #[] false),1,8,Go.Value.nilFunc,[]⟩),
 (54,⟨(Go.TypeDesc.func #[29] #[53] false),1,8,Go.Value.nilFunc,[]⟩),
 (55,⟨(Go.TypeDesc.func #[29,29] #[3] false),1,8,Go.Value.nilFunc,[]⟩),
 (56,⟨(Go.TypeDesc.func #[29] #[29] false),1,8,Go.Value.nilFunc,[]⟩),
 (57,⟨(Go.TypeDesc.int Go.IntKind.u64),1,8,(Go.Value.int Go.IntKind.u64 0),[]⟩),
 (58,⟨(Go.TypeDesc.struct #[]),2,16,(Go.Value.agg #[(Go.Value.int Go.IntKind.i64 0),(Go.Value.int Go.IntKind.i64 0)]),[some (0,1,false),some (1,1,false)]⟩),
 (59,⟨(Go.TypeDesc.struct #[]),2,16,(Go.Value.agg #[(Go.Value.int Go.IntKind.i64 0),(Go.Value.int Go.IntKind.i64 0)]),[some (0,1,false),some (1,1,false)]⟩),
 (60,⟨(Go.TypeDesc.struct #[]),6,56,(Go.Value.agg #[(Go.Value.string { data:= #[] }),(Go.Value.int Go.IntKind.i64 0),(Go.Value.int Go.IntKind.i64 0),(Go.Value.int Go.IntKind.i64 0),(Go.Value.int Go.IntKind.i64 0),(Go.Value.int Go.IntKind.i64 0)]),[some (0,1,false),some (1,1,false),some (2,2,true),some (4,1,false),some (5,1,false)]⟩),
 (61,⟨(Go.TypeDesc.struct #[]),6,56,(Go.Value.agg #[(Go.Value.string { data:= #[] }),(Go.Value.int Go.IntKind.i64 0),(Go.Value.int Go.IntKind.i64 0),(Go.Value.int Go.IntKind.i64 0),(Go.Value.int Go.IntKind.i64 0),(Go.Value.int Go.IntKind.i64 0)]),[some (0,1,false),some (1,1,false),some (2,2,true),some (4,1,false),some (5,1,false)]⟩),
 (62,⟨(Go.TypeDesc.struct #[]),4,32,(Go.Value.agg #[(Go.Value.int Go.IntKind.i64 0),(Go.Value.int Go.IntKind.i64 0),(Go.Value.int Go.IntKind.i64 0),(Go.Value.int Go.IntKind.i64 0)]),[some (0,1,false),some (1,1,false),some (2,1,false),some (3,1,false)]⟩),
 (63,⟨(Go.TypeDesc.struct #[]),4,32,(Go.Value.agg #[(Go.Value.int Go.IntKind.i64 0),(Go.Value.int Go.IntKind.i64 0),(Go.Value.int Go.IntKind.i64 0),(Go.Value.int Go.IntKind.i64 0)]),[some (0,1,false),some (1,1,false),some (2,1,false),some (3,1,false)]⟩),
 (64,⟨(Go.TypeDesc.struct #[]),7,56,(Go.Value.agg #[(Go.Value.int Go.IntKind.i64 0),(Go.Value.int Go.IntKind.i64 0),(Go.Value.int Go.IntKind.i64 0),(Go.Value.int Go.IntKind.i64 0),(Go.Value.int Go.IntKind.i64 0),(Go.Value.int Go.IntKind.i64 0),(Go.Value.int Go.IntKind.i64 0)]),[some (0,1,false),some (1,1,false),some (2,1,false),some (3,1,false),some (4,2,true),some (6,1,false)]⟩),
 (65,⟨(Go.TypeDesc.struct #[]),7,56,(Go.Value.agg #[(Go.Value.int Go.IntKind.i64 0),(Go.Value.int Go.IntKind.i64 0),(Go.Value.int Go.IntKind.i64 0),(Go.Value.int Go.IntKind.i64 0),(Go.Value.int Go.IntKind.i64 0),(Go.Value.int Go.IntKind.i64 0),(Go.Value.int Go.IntKind.i64 0)]),[some (0,1,false),some (1,1,false),some (2,1,false),some (3,1,false),some (4,2,true),some (6,1,false)]⟩),
 (66,⟨(Go.TypeDesc.func #[28] #[34] false),1,8,Go.Value.nilFunc,[]⟩),
 (67,⟨(Go.TypeDesc.func #[29,68] #[4] false),1,8,Go.Value.nilFunc,[]⟩),
 (68,⟨(Go.TypeDesc.func #[3] #[4] false),1,8,Go.Value.nilFunc,[]⟩),
 (69,⟨(Go.TypeDesc.func #[29,3] #[4] false),1,8,Go.Value.nilFunc,[]⟩),
 (70,⟨(Go.TypeDesc.func #[29,73] #[] false),1,8,Go.Value.nilFunc,[]⟩),
 (72,⟨(Go.TypeDesc.func #[28,33] #[3,34] false),1,8,Go.Value.nilFunc,[]⟩),
 (73,⟨(Go.TypeDesc.func #[29] #[] false),1,8,Go.Value.nilFunc,[]⟩),
 (74,⟨(Go.TypeDesc.slice 98),1,24,(Go.Value.slice none 0 0),[]⟩),
 (75,⟨(Go.TypeDesc.struct #[]),14,200,(Go.Value.agg #[(Go.Value.int Go.IntKind.i64 0),(Go.Value.slice none 0 0),(Go.Value.slice none 0 0),(Go.Value.slice none 0 0),(Go.Value.int Go.IntKind.i64 0),(Go.Value.int Go.IntKind.i64 0),(Go.Value.string { data:= #[] }),(Go.Value.int Go.IntKind.i64 0),(Go.Value.int Go.IntKind.i64 0),(Go.Value.int Go.IntKind.i64 0),(Go.Value.int Go.IntKind.i64 0),(Go.Value.int Go.IntKind.i64 0),(Go.Value.slice none 0 0),(Go.Value.slice none 0 0)]),[some (0,6,true),some (6,6,true),some (12,1,false),some (13,1,false)]⟩),
 (76,⟨(Go.TypeDesc.struct #[]),14,200,(Go.Value.agg #[(Go.Value.int Go.IntKind.i64 0),(Go.Value.slice none 0 0),(Go.Value.slice none 0 0),(Go.Value.slice none 0 0),(Go.Value.int Go.IntKind.i64 0),(Go.Value.int Go.IntKind.i64 0),(Go.Value.string { data:= #[] }),(Go.Value.int Go.IntKind.i64 0),(Go.Value.int Go.IntKind.i64 0),(Go.Value.int Go.IntKind.i64 0),(Go.Value.int Go.IntKind.i64 0),(Go.Value.int Go.IntKind.i64 0),(Go.Value.slice none 0 0),(Go.Value.slice none 0 0)]),[some (0,6,true),some (6,6,true),some (12,1,false),some (13,1,false)]⟩),
 (77,⟨(Go.TypeDesc.func #[28,3,29] #[76] false),1,8,Go.Value.nilFunc,[]⟩),
 (78,⟨(Go.TypeDesc.func #[76,81] #[49] false),1,8,Go.Value.nilFunc,[]⟩),
 (79,⟨(Go.TypeDesc.slice 4),1,24,(Go.Value.slice none 0 0),[]⟩),
 (80,⟨(Go.TypeDesc.struct #[]),6,80,(Go.Value.agg #[(Go.Value.slice none 0 0),(Go.Value.slice none 0 0),(Go.Value.int Go.IntKind.i64 0),(Go.Value.int Go.IntKind.i64 0),(Go.Value.int Go.IntKind.i64 0),(Go.Value.int Go.IntKind.i64 0)]),[some (0,1,false),some (1,1,false),some (2,1,false),some (3,1,false),some (4,1,false),some (5,1,false)]⟩),
 (81,⟨(Go.TypeDesc.struct #[]),6,80,(Go.Value.agg #[(Go.Value.slice none 0 0),(Go.Value.slice none 0 0),(Go.Value.int Go.IntKind.i64 0),(Go.Value.int Go.IntKind.i64 0),(Go.Value.int Go.IntKind.i64 0),(Go.Value.int Go.IntKind.i64 0)]),[some (0,1,false),some (1,1,false),some (2,1,false),some (3,1,false),some (4,1,false),some (5,1,false)]⟩),
 (82,⟨(Go.TypeDesc.func #[3,3] #[3] false),1,8,Go.Value.nilFunc,[]⟩),
 (83,⟨(Go.TypeDesc.func #[24] #[34] false),1,8,Go.Value.nilFunc,[]⟩),
 (84,⟨(Go.TypeDesc.func #[25,3,3] #[34] false),1,8,Go.Value.nilFunc,[]⟩),
 (85,⟨(Go.TypeDesc.func #[26,3,3] #[34] false),1,8,Go.Value.nilFunc,[]⟩),
 (86,⟨(Go.TypeDesc.func #[29,68] #[3] false),1,8,Go.Value.nilFunc,[]⟩),
 (87,⟨(Go.TypeDesc.func #[29,3] #[3] false),1,8,Go.Value.nilFunc,[]⟩),
 (88,⟨(Go.TypeDesc.func #[3] #[] false),1,8,Go.Value.nilFunc,[]⟩),
 (89,⟨(Go.TypeDesc.pointer 97),1,8,(Go.Value.pointer none),[]⟩),
 (91,⟨(Go.TypeDesc.func #[28,33] #[89,34,3] false),1,8,Go.Value.nilFunc,[]⟩),
 (92,⟨(Go.TypeDesc.struct #[]),4,32,(Go.Value.agg #[(Go.Value.int Go.IntKind.i64 0),(Go.Value.int Go.IntKind.i64 0),(Go.Value.int Go.IntKind.i64 0),(Go.Value.int Go.IntKind.i64 0)]),[some (0,1,false),some (1,1,false),some (2,1,false),some (3,1,false)]⟩),
 (93,⟨(Go.TypeDesc.struct #[]),4,32,(Go.Value.agg #[(Go.Value.int Go.IntKind.i64 0),(Go.Value.int Go.IntKind.i64 0),(Go.Value.int Go.IntKind.i64 0),(Go.Value.int Go.IntKind.i64 0)]),[some (0,1,false),some (1,1,false),some (2,1,false),some (3,1,false)]⟩),
 (94,⟨(Go.TypeDesc.map 3 98),1,8,(Go.Value.map none),[]⟩),
 (95,⟨(Go.TypeDesc.slice 158),1,24,(Go.Value.slice none 0 0),[]⟩),
 (96,⟨(Go.TypeDesc.struct #[]),18,216,(Go.Value.agg #[(Go.Value.int Go.IntKind.i64 0),(Go.Value.int Go.IntKind.i64 0),(Go.Value.int Go.IntKind.i64 0),(Go.Value.int Go.IntKind.i64 0),(Go.Value.int Go.IntKind.i64 0),(Go.Value.slice none 0 0),(Go.Value.slice none 0 0),(Go.Value.slice none 0 0),(Go.Value.int Go.IntKind.i64 0),(Go.Value.int Go.IntKind.i64 0),(Go.Value.string { data:= #[] }),(Go.Value.int Go.IntKind.i64 0),(Go.Value.int Go.IntKind.i64 0),(Go.Value.int Go.IntKind.i64 0),(Go.Value.int Go.IntKind.i64 0),(Go.Value.int Go.IntKind.i64 0),(Go.Value.map none),(Go.Value.slice none 0 0)]),[some (0,4,true),some (4,6,true),some (10,6,true),some (16,1,false),some (17,1,false)]⟩),
 (97,⟨(Go.TypeDesc.struct #[]),18,216,(Go.Value.agg #[(Go.Value.int Go.IntKind.i64 0),(Go.Value.int Go.IntKind.i64 0),(Go.Value.int Go.IntKind.i64 0),(Go.Value.int Go.IntKind.i64 0),(Go.Value.int Go.IntKind.i64 0),(Go.Value.slice none 0 0),(Go.Value.slice none 0 0),(Go.Value.slice none 0 0),(Go.Value.int Go.IntKind.i64 0),(Go.Value.int Go.IntKind.i64 0),(Go.Value.string { data:= #[] }),(Go.Value.int Go.IntKind.i64 0),(Go.Value.int Go.IntKind.i64 0),(Go.Value.int Go.IntKind.i64 0),(Go.Value.int Go.IntKind.i64 0),(Go.Value.int Go.IntKind.i64 0),(Go.Value.map none),(Go.Value.slice none 0 0)]),[some (0,4,true),some (4,6,true),some (10,6,true),some (16,1,false),some (17,1,false)]⟩),
 (98,⟨(Go.TypeDesc.slice 100),1,24,(Go.Value.slice none 0 0),[]⟩),
 (99,⟨(Go.TypeDesc.struct #[]),2,16,(Go.Value.agg #[(Go.Value.int Go.IntKind.i64 0),(Go.Value.int Go.IntKind.i64 0)]),[some (0,1,false),some (1,1,false)]⟩),
 (100,⟨(Go.TypeDesc.struct #[]),2,16,(Go.Value.agg #[(Go.Value.int Go.IntKind.i64 0),(Go.Value.int Go.IntKind.i64 0)]),[some (0,1,false),some (1,1,false)]⟩),
 (101,⟨(Go.TypeDesc.func #[28,3,3] #[100] false),1,8,Go.Value.nilFunc,[]⟩),
 (103,⟨(Go.TypeDesc.func #[76,81,3] #[81,4] false),1,8,Go.Value.nilFunc,[]⟩),
 (104,⟨(Go.TypeDesc.func #[49,49] #[49] false),1,8,Go.Value.nilFunc,[]⟩),
 (105,⟨(Go.TypeDesc.func #[76,81] #[81,4] false),1,8,Go.Value.nilFunc,[]⟩),
 (106,⟨(Go.TypeDesc.func #[29,53] #[29] false),1,8,Go.Value.nilFunc,[]⟩),
 (107,⟨(Go.TypeDesc.func #[29,3,3,3] #[] false),1,8,Go.Value.nilFunc,[]⟩),
 (108,⟨(Go.TypeDesc.func #[57] #[3] false),1,8,Go.Value.nilFunc,[]⟩),
 (109,⟨(Go.TypeDesc.func #[112] #[34] false),1,8,Go.Value.nilFunc,[]⟩),
 (110,⟨(Go.TypeDesc.slice 136),1,24,(Go.Value.slice none 0 0),[]⟩),
 (111,⟨(Go.TypeDesc.struct #[]),2,32,(Go.Value.agg #[(Go.Value.int Go.IntKind.i64 0),(Go.Value.slice none 0 0)]),[some (0,1,false),some (1,1,false)]⟩),
 (112,⟨(Go.TypeDesc.struct #[]),2,32,(Go.Value.agg #[(Go.Value.int Go.IntKind.i64 0),(Go.Value.slice none 0 0)]),[some (0,1,false),some (1,1,false)]⟩),
 (113,⟨(Go.TypeDesc.func #[24] #[112] false),1,8,Go.Value.nilFunc,[]⟩),
 (114,⟨(Go.TypeDesc.func #[61,3,3] #[34] false),1,8,Go.Value.nilFunc,[]⟩),
 (115,⟨(Go.TypeDesc.map 9 4),1,8,(Go.Value.map none),[]⟩),
 (116,⟨(Go.TypeDesc.func #[65,3,3] #[34] false),1,8,Go.Value.nilFunc,[]⟩),
 (117,⟨(Go.TypeDesc.func #[26,118] #[4] false),1,8,Go.Value.nilFunc,[]⟩),
 (118,⟨(Go.TypeDesc.func #[65] #[4] false),1,8,Go.Value.nilFunc,[]⟩),
 (119,⟨(Go.TypeDesc.func #[33,3] #[34] false),1,8,Go.Value.nilFunc,[]⟩),
 (120,⟨(Go.TypeDesc.func #[] #[34] false),1,8,Go.Value.nilFunc,[]⟩),
 (122,⟨(Go.TypeDesc.func #[24,3] #[98,34] false),1,8,Go.Value.nilFunc,[]⟩),
 (123,⟨(Go.TypeDesc.func #[29,3,3] #[] false),1,8,Go.Value.nilFunc,[]⟩),
 (124,⟨(Go.TypeDesc.int Go.IntKind.i64),1,8,(Go.Value.int Go.IntKind.i64 0),[]⟩),
 (126,⟨(Go.TypeDesc.func #[29,3,3] #[3,124] false),1,8,Go.Value.nilFunc,[]⟩),
 (127,⟨(Go.TypeDesc.func #[29,3,3] #[4] false),1,8,Go.Value.nilFunc,[]⟩),
 (128,⟨(Go.TypeDesc.func #[3,3] #[4] false),1,8,Go.Value.nilFunc,[]⟩),
 (129,⟨(Go.TypeDesc.func #[29,3,3,3] #[3] false),1,8,Go.Value.nilFunc,[]⟩),
 (131,⟨(Go.TypeDesc.func #[29,3,3,3] #[3,4] false),1,8,Go.Value.nilFunc,[]⟩),
 (132,⟨(Go.TypeDesc.func #[133] #[3] false),1,8,Go.Value.nilFunc,[]⟩),
 (133,⟨(Go.TypeDesc.int Go.IntKind.u32),1,4,(Go.Value.int Go.IntKind.u32 0),[]⟩),
 (134,⟨(Go.TypeDesc.func #[135] #[3] false),1,8,Go.Value.nilFunc,[]⟩),
 (135,⟨(Go.TypeDesc.int Go.IntKind.u64),1,8,(Go.Value.int Go.IntKind.u64 0),[]⟩),
 (136,⟨(Go.TypeDesc.struct #[]),2,16,(Go.Value.agg #[(Go.Value.int Go.IntKind.i64 0),(Go.Value.int Go.IntKind.i64 0)]),[some (0,1,false),some (1,1,false)]⟩),
 (137,⟨(Go.TypeDesc.func #[9] #[4] false),1,8,Go.Value.nilFunc,[]⟩),
 (138,⟨(Go.TypeDesc.func #[3,3,3] #[4] false),1,8,Go.Value.nilFunc,[]⟩),
 (139,⟨(Go.TypeDesc.func #[26,118] #[3] false),1,8,Go.Value.nilFunc,[]⟩),
 (140,⟨(Go.TypeDesc.func #[61,3] #[4] false),1,8,Go.Value.nilFunc,[]⟩),
 (142,⟨(Go.TypeDesc.func #[3] #[100,4] false),1,8,Go.Value.nilFunc,[]⟩),
 (143,⟨(Go.TypeDesc.func #[3,100] #[] false),1,8,Go.Value.nilFunc,[]⟩),
 (144,⟨(Go.TypeDesc.func #[3,3,3] #[] false),1,8,Go.Value.nilFunc,[]⟩),
 (145,⟨(Go.TypeDesc.func #[24,3] #[4] false),1,8,Go.Value.nilFunc,[]⟩),
 (146,⟨(Go.TypeDesc.func #[100,100] #[100] false),1,8,Go.Value.nilFunc,[]⟩),
 (147,⟨(Go.TypeDesc.func #[100,100] #[4] false),1,8,Go.Value.nilFunc,[]⟩),
 (148,⟨(Go.TypeDesc.int Go.IntKind.u64),1,8,(Go.Value.int Go.IntKind.u64 0),[]⟩),
 (149,⟨(Go.TypeDesc.func #[3] #[57] false),1,8,Go.Value.nilFunc,[]⟩),
 (150,⟨(Go.TypeDesc.func #[] #[135] false),1,8,Go.Value.nilFunc,[]⟩),
 (151,⟨(Go.TypeDesc.func #[29,3,152] #[3] false),1,8,Go.Value.nilFunc,[]⟩),
 (152,⟨(Go.TypeDesc.pointer 3),1,8,(Go.Value.pointer none),[]⟩),
 (153,⟨(Go.TypeDesc.func #[29,3,3,3,152] #[3] false),1,8,Go.Value.nilFunc,[]⟩),
 (154,⟨(Go.TypeDesc.func #[5] #[4] false),1,8,Go.Value.nilFunc,[]⟩),
 (156,⟨(Go.TypeDesc.pointer 93),1,8,(Go.Value.pointer none),[]⟩),
 (157,⟨(Go.TypeDesc.struct #[]),6,48,(Go.Value.agg #[(Go.Value.int Go.IntKind.i64 0),(Go.Value.int Go.IntKind.i64 0),(Go.Value.int Go.IntKind.i64 0),(Go.Value.int Go.IntKind.i64 0),(Go.Value.int Go.IntKind.i64 0),(Go.Value.int Go.IntKind.i64 0)]),[some (0,1,false),some (1,1,false),some (2,1,false),some (3,1,false),some (4,1,false),some (5,1,false)]⟩),
 (158,⟨(Go.TypeDesc.struct #[]),6,48,(Go.Value.agg #[(Go.Value.int Go.IntKind.i64 0),(Go.Value.int Go.IntKind.i64 0),(Go.Value.int Go.IntKind.i64 0),(Go.Value.int Go.IntKind.i64 0),(Go.Value.int Go.IntKind.i64 0),(Go.Value.int Go.IntKind.i64 0)]),[some (0,1,false),some (1,1,false),some (2,1,false),some (3,1,false),some (4,1,false),some (5,1,false)]⟩),
 (159,⟨(Go.TypeDesc.pointer 148),1,8,(Go.Value.pointer none),[]⟩),
 (161,⟨(Go.TypeDesc.func #[29,3,3,152] #[3,3] false),1,8,Go.Value.nilFunc,[]⟩),
 (162,⟨(Go.TypeDesc.func #[24,3,163] #[98] false),1,8,Go.Value.nilFunc,[]⟩),
 (163,⟨(Go.TypeDesc.func #[63] #[3,3] false),1,8,Go.Value.nilFunc,[]⟩),
 (164,⟨(Go.TypeDesc.func #[] #[100] false),1,8,Go.Value.nilFunc,[]⟩),
 (165,⟨(Go.TypeDesc.pointer 176),1,8,(Go.Value.pointer none),[]⟩),
 (166,⟨(Go.TypeDesc.func #[169] #[165] false),1,8,Go.Value.nilFunc,[]⟩),
 (167,⟨(Go.TypeDesc.struct #[]),3,24,(Go.Value.agg #[(Go.Value.int Go.IntKind.i64 0),(Go.Value.int Go.IntKind.i64 0),(Go.Value.int Go.IntKind.i64 0)]),[some (0,1,false),some (1,2,true)]⟩),
 (168,⟨(Go.TypeDesc.struct #[]),3,24,(Go.Value.agg #[(Go.Value.int Go.IntKind.i64 0),(Go.Value.int Go.IntKind.i64 0),(Go.Value.int Go.IntKind.i64 0)]),[some (0,1,false),some (1,2,true)]⟩),
 (169,⟨(Go.TypeDesc.func #[168,168] #[4] false),1,8,Go.Value.nilFunc,[]⟩),
 (170,⟨(Go.TypeDesc.func #[168] #[] false),1,8,Go.Value.nilFunc,[]⟩),
 (172,⟨(Go.TypeDesc.func #[] #[168,4] false),1,8,Go.Value.nilFunc,[]⟩),
 (173,⟨(Go.TypeDesc.func #[100,63] #[100] false),1,8,Go.Value.nilFunc,[]⟩),
 (174,⟨(Go.TypeDesc.slice 178),1,24,(Go.Value.slice none 0 0),[]⟩),
 (175,⟨(Go.TypeDesc.struct #[]),3,40,(Go.Value.agg #[Go.Value.nilFunc,(Go.Value.slice none 0 0),(Go.Value.int Go.IntKind.i64 0)]),[some (0,1,false),some (1,1,false),some (2,1,false)]⟩),
 (176,⟨(Go.TypeDesc.struct #[]),3,40,(Go.Value.agg #[Go.Value.nilFunc,(Go.Value.slice none 0 0),(Go.Value.int Go.IntKind.i64 0)]),[some (0,1,false),some (1,1,false),some (2,1,false)]⟩),
 (177,⟨(Go.TypeDesc.struct #[]),4,32,(Go.Value.agg #[(Go.Value.int Go.IntKind.i64 0),(Go.Value.int Go.IntKind.i64 0),(Go.Value.int Go.IntKind.i64 0),(Go.Value.int Go.IntKind.i64 0)]),[some (0,3,true),some (3,1,false)]⟩),
 (178,⟨(Go.TypeDesc.struct #[]),4,32,(Go.Value.agg #[(Go.Value.int Go.IntKind.i64 0),(Go.Value.int Go.IntKind.i64 0),(Go.Value.int Go.IntKind.i64 0),(Go.Value.int Go.IntKind.i64 0)]),[some (0,3,true),some (3,1,false)]⟩),
 (179,⟨(Go.TypeDesc.func #[3,3] #[] false),1,8,Go.Value.nilFunc,[]⟩),
 (180,⟨(Go.TypeDesc.func #[] #[3] false),1,8,Go.Value.nilFunc,[]⟩),
 (181,⟨(Go.TypeDesc.func #[] #[9] false),1,8,Go.Value.nilFunc,[]⟩),
 (189,⟨(Go.TypeDesc.func #[195,195] #[4] false),1,8,Go.Value.nilFunc,[]⟩),
 (190,⟨(Go.TypeDesc.pointer 5),1,8,(Go.Value.pointer none),[]⟩)]
def Tt:TT:=QfU TtL
set_option maxRecDepth 100000 in
theorem QU:TOk Tryz.prog Tt:=by
 refine TOk.ofList fun p hp=> ?_
 simp only[TtL,List.mem_cons,List.not_mem_nil,or_false] at hp
 rcases hp with rfl | rfl | rfl | rfl | rfl | rfl | rfl | rfl | rfl | rfl | rfl | rfl | rfl | rfl | rfl | rfl | rfl | rfl | rfl | rfl | rfl | rfl | rfl | rfl | rfl | rfl | rfl | rfl | rfl | rfl | rfl | rfl | rfl | rfl | rfl | rfl | rfl | rfl | rfl | rfl | rfl | rfl | rfl | rfl | rfl | rfl | rfl | rfl | rfl | rfl | rfl | rfl | rfl | rfl | rfl | rfl | rfl | rfl | rfl | rfl | rfl | rfl | rfl | rfl | rfl | rfl | rfl | rfl | rfl | rfl | rfl | rfl | rfl | rfl | rfl | rfl | rfl | rfl | rfl | rfl | rfl | rfl | rfl | rfl | rfl | rfl | rfl | rfl | rfl | rfl | rfl | rfl | rfl | rfl | rfl | rfl | rfl | rfl | rfl | rfl | rfl | rfl | rfl | rfl | rfl | rfl | rfl | rfl | rfl | rfl | rfl | rfl | rfl | rfl | rfl | rfl | rfl | rfl | rfl | rfl | rfl | rfl | rfl | rfl | rfl | rfl | rfl | rfl | rfl | rfl | rfl | rfl | rfl | rfl | rfl | rfl | rfl | rfl | rfl | rfl | rfl | rfl | rfl | rfl | rfl | rfl | rfl | rfl | rfl | rfl | rfl | rfl | rfl | rfl | rfl | rfl<;>kernel_rfl
theorem QeL:Tryz.prog.follows .mixedOrders=true:=by kernel_rfl
end Go.Proofs.YtilbengnjgglhaaGreat
namespace Go.Proofs.YtilbengnjgglhaaGreat
open Go.RowKit
set_option linter.unusedSimpArgs false
set_option linter.unusedVariables false
theorem Addr.add_zero' (a:Addr):a.add 0=a:=by simp[Addr.add]
theorem Addr.add_add' (a:Addr) (i j:Nat):(a.add i).add j=a.add (i+j):=by
 unfold Addr.add
 by_cases hi:i=0<;>by_cases hj:j=0<;>simp[hi,hj,Nat.add_assoc]
def Qm (ts:List Nat) (fr:Fr):Fr:=match ts with
 | []=>[]
 | t::r=>match JZ fr t with
  | some v=>(t,v)::Qm r fr
  | none=>Qm r fr
theorem Qch (fr:Fr): ∀(ts:List Nat) (t:Nat) (v:Value),JZ (Qm ts fr) t=some v→JZ fr t=some v
 | [],t,v,h=>by cases h
 | s::r,t,v,h=>by
  simp only[Qm] at h
  cases hs:JZ fr s with
  | none=>rw[hs] at h;exact Qch fr r t v h
  | some u =>
   rw[hs] at h
   simp only[Qap] at h
   by_cases he:s=t
   ·rw[if_pos he] at h;subst he;rw[←h];exact hs
   ·rw[if_neg he] at h;exact Qch fr r t v h
def Qif (fr' fr:Fr):Prop:=match fr' with
 | []=>True
 | p::r=>JZ fr p.1=some p.2∧Qif r fr
theorem Qif.look {fr:Fr}: ∀{fr':Fr},Qif fr' fr→ ∀t v,Go.Proofs.YtilbengnjgglhaaGreat.JZ fr' t=some v→Go.Proofs.YtilbengnjgglhaaGreat.JZ fr t=some v
 | [],_,t,v,h=>by cases h
 | p::r,hs,t,v,h=>by
  simp only[Qap] at h
  by_cases he:p.1=t
  ·rw[if_pos he] at h;subst he;rw[←h];exact hs.1
  ·rw[if_neg he] at h;exact Qif.look hs.2 t v h
section
variable {P:Program} {T:TT} {N:NN} {K:QW} {B:Nat→QW} {R:QW} {fr:Fr} {μ:Gh} {L:List Seg}
theorem WP.keep {c:Code} (ts:List Nat) (h:WP P N c K B R (Qm ts fr) μ L):WP P N c K B R fr μ L:=h.sub (Qch fr ts) (List.Sublist.refl _)
theorem WP.drop {c:Code} {s:Seg} (h:WP P N c K B R fr μ L):WP P N c K B R fr μ (s::L):=h.sub (fun _ _ h=>h) (by simp[List.flatten_cons])
end
abbrev w64 (n:Int):Int:=IntKind.i64.wrap n
theorem Qk7 {n:Int} (h1: -9223372036854775808≤n) (h2:n≤9223372036854775807):IntKind.i64.wrap n=n:=by
 rw[IntKind.wrap_i64];omega
theorem QI.refl {L:List Seg}:QI L L:=fun _ h=>h
theorem QI.cons {L:List Seg} {s:Seg}:QI L (s::L):=fun c hc=>by simp only[List.flatten_cons,List.mem_append];exact .inr hc
theorem QI.nil {L:List Seg}:QI [] L:=fun c hc=>by cases hc
section
variable {μ:Gh} {L:List Seg}
theorem Wf.seg (i j:Nat) {s:Seg} {g:Nat} {o:Obj} (hi:L[i]? =some s) (hj:s[j]? =some (g,o)):Wf μ L g o :=
 .inr (List.mem_flatten.2 ⟨s,List.mem_of_getElem? hi,List.mem_of_getElem? hj⟩)
theorem ZW.seg (i j:Nat) {s:Seg} {g off:Nat} {cs:Array Value} {e:TypeId} {f:Nat×Nat} {v:Value} (hi:L[i]? =some s) (hj:s[j]? =some (g,.cells cs e f)) (hv:cs.toList[off]? =some v):ZW μ L ⟨g,off,none⟩ v :=
 ⟨rfl,cs,e,f,Wf.seg i j hi hj,by simpa using hv⟩
theorem Zo.seg (i j:Nat) {s:Seg} {g off:Nat} {cs:Array Value} {e:TypeId} {f:Nat×Nat} {vs:List Value} (hi:L[i]? =some s) (hj:s[j]? =some (g,.cells cs e f)) (hv:(cs.toList.drop off).take vs.length=vs):Zo μ L ⟨g,off,none⟩ vs:=by
 intro k v hk
 rw[Wm]
 refine ZW.seg i j hi hj ?_
 rw[←hv] at hk
 have hlt:k<vs.length:=by
  rcases Nat.lt_or_ge k vs.length with h | h
  ·exact h
  ·rw[List.getElem?_eq_none (by rw[List.length_take];omega)] at hk;cases hk
 rw[List.getElem?_take_of_lt hlt,List.getElem?_drop] at hk
 simpa using hk
theorem Zo.nil {a:Addr}:Zo μ L a []:=fun _ _ h=>by cases h
theorem ZW.of_cells0 {a:Addr} {vs:List Value} (h:Zo μ L a vs) {v:Value} (hv:vs[0]? =some v):ZW μ L a v:=by
 have:=h 0 v hv
 rwa [Addr.add_zero'] at this
theorem QaG.seg (i j:Nat) {s:Seg} {g off:Nat} {cs:Array Value} {e:TypeId} {vs:List Value} (hi:L[i]? =some s) (hj:s[j]? =some (g,.cells cs e (0,0))) (hl:off+vs.length≤cs.size) :
  QaG L ⟨g,off,none⟩ vs (L.set i (s.set j (g,.cells (WY cs.toList off vs).toArray e (0,0)))) :=
 ⟨i,j,s,cs,e,hi,hj,rfl,hl,rfl⟩
def Arr (μ:Gh) (A:Option Addr) (sz:Nat) (css:List (List Value)):Prop :=
 ∀i cs,css[i]? =some cs→cs.length=sz∧ ∃a,A=some a∧Zo μ [] (a.add (i*sz)) cs
theorem Arr.mono {μ':Gh} {A:Option Addr} {sz:Nat} {css:List (List Value)} (h:Arr μ A sz css) (hm:μ.le μ'):Arr μ' A sz css:=by
 intro i cs hi;obtain ⟨h1,a,h2,h3⟩:=h i cs hi;exact ⟨h1,a,h2,h3.mono hm (by simp)⟩
theorem Arr.nil {sz:Nat} {A:Option Addr}:Arr μ A sz []:=fun _ _ h=>by cases h
theorem Arr.at_ {A:Option Addr} {sz:Nat} {css:List (List Value)} (h:Arr μ A sz css) {i:Nat} {cs:List Value} (hi:css[i]? =some cs) :
  ∃a,A=some a∧Zo μ L (a.add (i*sz)) cs:=by
 obtain ⟨_,a,h2,h3⟩:=h i cs hi;exact ⟨a,h2,h3.mono (Gh.le.refl _) (by simp)⟩
end
end Go.Proofs.YtilbengnjgglhaaGreat
namespace Go.Proofs.YtilbengnjgglhaaGreat
open Go.RowKit
set_option linter.unusedSimpArgs false
set_option linter.unusedVariables false
section
variable {μ:Gh} {L:List Seg} {k:Gh→List Seg→Prop}
theorem Upd.done (h:k μ L):Upd μ L k:=fun _ hw=>⟨μ,L,Gh.le.refl _,hw,h⟩
theorem Upd.drop {s:Seg} (h:Upd μ L k):Upd μ (s::L) k:=fun w hw=>h w hw.drop
theorem Upd.sub {L':List Seg} (hs:L'.flatten.Sublist L.flatten) (h:Upd μ L' k):Upd μ L k:=fun w hw=>h w (hw.sub hs)
theorem Upd.perm {L':List Seg} (hs:L.flatten.Perm L'.flatten) (h:Upd μ L' k):Upd μ L k:=fun w hw=>h w (hw.perm hs)
theorem Upd.swap {s t:Seg} (h:Upd μ (t::s::L) k):Upd μ (s::t::L) k :=
 h.perm (by simp only[List.flatten_cons,←List.append_assoc];exact List.perm_append_comm.append_right _)
theorem Upd.frz {s:Seg} (h:μ.le (μ.add s)→Upd (μ.add s) L k):Upd μ (s::L) k:=fun w hw=>by
 obtain ⟨hm,hi⟩:=hw.freeze;obtain ⟨μ',L',h1,h2,h3⟩:=h hm w hi;exact ⟨μ',L',hm.trans h1,h2,h3⟩
theorem Upd.mono {k':Gh→List Seg→Prop} (h:Upd μ L k) (hk: ∀μ' L',μ.le μ'→k μ' L'→k' μ' L'):Upd μ L k':=fun w hw=>by
 obtain ⟨μ',L',h1,h2,h3⟩:=h w hw;exact ⟨μ',L',h1,h2,hk _ _ h1 h3⟩
theorem Upd.know (h:(∃w,Inv w μ L)→Upd μ L k):Upd μ L k:=fun w hw=>h ⟨w,hw⟩ w hw
theorem WP.upd {P:Program} {N:NN} {c:Code} {K:QW} {B:Nat→QW} {R:QW} {fr:Fr} (h:Upd μ L fun μ' L'=>WP P N c K B R fr μ' L'):WP P N c K B R fr μ L:=fun a w ha hw=>by
 obtain ⟨μ',L',h1,h2,h3⟩:=h w hw;exact Code.wpIn_mono (VC h1 (fun _ _ _ _ h=>h) (fun _ _ _ _ _ h=>h) (fun _ _ _ _ h=>h)) (h3 a w ha h2)
theorem YV.upd {P:Program} {s:Sem Value} {R:Value→Gh→List Seg→Prop} (h:YV P s μ L fun v μ' L'=>Upd μ' L' (R v)):YV P s μ L R:=fun w hw=>by
 obtain ⟨v,w',μ',L',h1,h2,h3,h4⟩:=h w hw;obtain ⟨μ2,L2,k1,k2,k3⟩:=h4 w' h3;exact ⟨v,w',μ2,L2,h1,h2.trans k1,k2,k3⟩
theorem YV.pre {P:Program} {s:Sem Value} {R:Value→Gh→List Seg→Prop} (h:Upd μ L fun μ' L'=>YV P s μ' L' R):YV P s μ L R:=fun w hw=>by
 obtain ⟨μ',L',h1,h2,h3⟩:=h w hw;obtain ⟨v,w',μ2,L2,k1,k2,k3,k4⟩:=h3 w h2;exact ⟨v,w',μ2,L2,k1,h1.trans k2,k3,k4⟩
theorem Fn.upd {P:Program} {f:FuncId} {args:List Value} {R:Value→Gh→List Seg→Prop} (h:Fn P f args μ L fun v μ' L'=>Upd μ' L' (R v)):Fn P f args μ L R:=by
 rcases h with ⟨h1,h2⟩ | ⟨fn,e,h1,h2,h3,h4,h5,h6⟩
 ·exact .inl ⟨h1,fun w hw=>(h2 w hw).mono fun _ w' ⟨v,μ',L',he,hm,hi,hR⟩=>by
   obtain ⟨μ2,L2,h1,h2,h3⟩:=hR w' hi;exact ⟨v,μ2,L2,he,hm.trans h1,h2,h3⟩⟩
 ·exact .inr ⟨fn,e,h1,h2,h3,h4,h5,h6.upd⟩
theorem Zz {L:List Seg} {i:Nat} {s:Seg} (hi:L[i]? =some s):L.flatten.Perm (s::L.set i []).flatten:=by
 induction L generalizing i with
 | nil=>simp at hi
 | cons t L ih =>
  cases i with
  | zero=>simp at hi;subst hi;simp
  | succ i =>
   simp at hi
   have:=ih hi
   simp only[List.flatten_cons,List.set_cons_succ] at this ⊢
   refine (this.append_left t).trans ?_
   rw[←List.append_assoc,←List.append_assoc]
   exact List.perm_append_comm.append_right _
theorem Upd.frzAt (i:Nat) {s:Seg} (hi:L[i]? =some s) (h:μ.le (μ.add s)→Upd (μ.add s) (L.set i []) k):Upd μ L k :=
 Upd.perm (Zz hi) (Upd.frz h)
end
def JD (e:TypeId) (sz:Nat) (v:Value) (css:List (List Value)) (ch:Seg):Prop :=
 (∀cs∈css,cs.length=sz) ∧
 (
  (v= .slice none 0 0∧css=[]∧ch=[]) ∨
  ∃g cap cur,v= .slice (some ⟨g,0,none⟩) css.length cap∧ch=[(g,.cells cur e (0,0))]∧css.length≤cap∧cap≤maxLen∧cur.size=cap*sz∧cur.toList.take (css.length*sz)=css.flatten)
theorem JD.nil {e:TypeId} {sz:Nat}:JD e sz (.slice none 0 0) [] []:=⟨by simp,.inl ⟨rfl,rfl,rfl⟩⟩
theorem Yq {sz:Nat}: ∀{css:List (List Value)},(∀cs∈css,cs.length=sz)→css.flatten.length=css.length*sz
 | [],_=>by simp
 | c::r,h=>by
  rw[List.flatten_cons,List.length_append,h c (by simp),Yq (fun c hc=>h c (by simp[hc])),List.length_cons,Nat.succ_mul];omega
theorem Qeg {sz:Nat}: ∀{css:List (List Value)} {i j:Nat} {cs:List Value} {v:Value},(∀cs∈css,cs.length=sz)→css[i]? =some cs→cs[j]? =some v→css.flatten[i*sz+j]? =some v
 | [],i,j,cs,v,_,hi,_=>by simp at hi
 | c::r,0,j,cs,v,h,hi,hj=>by
  simp at hi;subst hi
  have hlt:j<c.length:=by
   rcases Nat.lt_or_ge j c.length with h | h
   ·exact h
   ·rw[List.getElem?_eq_none h] at hj;cases hj
  rw[List.flatten_cons,Nat.zero_mul,Nat.zero_add,List.getElem?_append_left hlt];exact hj
 | c::r,i+1,j,cs,v,h,hi,hj=>by
  have hc:=h c (by simp)
  rw[List.flatten_cons,List.getElem?_append_right (by rw[hc,Nat.succ_mul];omega)]
  have:(i+1)*sz+j-c.length=i*sz+j:=by rw[hc,Nat.succ_mul];omega
  rw[this]
  exact Qeg (fun c hc=>h c (by simp[hc])) (by simpa using hi) hj
theorem JD.form {e:TypeId} {sz:Nat} {v:Value} {css:List (List Value)} {ch:Seg} (h:JD e sz v css ch): ∃A cap,v= .slice A css.length cap∧css.length≤cap∧cap≤maxLen:=by
 rcases h.2 with ⟨rfl,rfl,rfl⟩ | ⟨g,cap,cur,rfl,_,h1,h2,_⟩
 ·exact ⟨none,0,rfl,by simp,by simp[maxLen]⟩
 ·exact ⟨_,cap,rfl,h1,h2⟩
theorem JD.arr {e:TypeId} {sz:Nat} {A:Option Addr} {n cap:Nat} {css:List (List Value)} {ch:Seg} (h:JD e sz (.slice A n cap) css ch) {μ:Gh} (hm: ∀c∈ch,μ.mem c.1=some c.2):Arr μ A sz css:=by
 intro i cs hi;have hcs:=h.1 cs (List.mem_of_getElem? hi);refine ⟨hcs,?_⟩;rcases h.2 with ⟨_,rfl,_⟩ | ⟨g,cap',cur,hv,rfl,h1,h2,h3,h4⟩
 ·cases hi
 ·injection hv with hv _ _
  refine ⟨⟨g,0,none⟩,hv,fun j v hj=> ?_⟩
  rw[Wm,Wm]
  refine ⟨rfl,cur,e,(0,0),.inl (hm (g,.cells cur e (0,0)) (by simp)),?_⟩;have hf:=Qeg h.1 hi hj
  rw[←h4,List.getElem?_take] at hf
  split at hf
  ·simpa using hf
  ·cases hf
theorem QkX {w:World} {μ:Gh} {L:List Seg} (h:Inv w μ L) {i:Nat} {s:Seg} (hi:L[i]? =some s):(s.map (·.1)).Nodup:=by
 have:=(h.perm (Zz hi)).nd
 simp only[List.flatten_cons,List.map_append,List.nodup_append] at this
 exact this.1
theorem Upd.arr {e:TypeId} {sz:Nat} {v:Value} {css:List (List Value)} {ch:Seg} {μ:Gh} {L:List Seg} {k:Gh→List Seg→Prop} (i:Nat) (hi:L[i]? =some ch) (hown:JD e sz v css ch)
  (h: ∀A cap μ',v= .slice A css.length cap→cap≤maxLen→css.length≤cap→μ.le μ'→Arr μ' A sz css→Upd μ' (L.set i []) k):Upd μ L k:=by
 refine Upd.know fun ⟨w,hw⟩=> ?_;have hn:=QkX hw hi;refine Upd.frzAt i hi fun hm=> ?_;obtain ⟨A,cap,rfl,h1,h2⟩:=hown.form;exact h A cap _ rfl h2 h1 hm (hown.arr fun c hc=>Gh.add_at hc hn)
section
variable {P:Program} {T:TT} {μ:Gh} {L:List Seg} {k:Value→Gh→List Seg→Prop}
theorem JD.row {w:World} {e:TypeId} {sz:Nat} {v:Value} {css:List (List Value)} {ch:Seg} (h:JD e sz v css ch) (hw: ∀c∈ch,w.heap[c.1]? =some c.2) :
  w.ownsRow 0 e sz v css.length css.flatten:=by
 refine ⟨Yq h.1,?_⟩;rcases h.2 with ⟨rfl,rfl,rfl⟩ | ⟨g,cap,cur,rfl,rfl,h1,h2,h3,h4⟩
 ·exact .inl ⟨rfl,rfl⟩
 ·exact .inr ⟨g,cap,cur,rfl,Nat.zero_le _,hw (g,.cells cur e (0,0)) (by simp),h1,h2,h3,h4⟩
theorem QhA (hT:TOk P T) {t ty e:TypeId} {it ie:TyI} (ht:T t=some it) (hu:it.u= .slice e) (he:T e=some ie) (hz:ie.zero.cells.size=ie.size) (hsz:0<ie.size)
  {v:Value} {css:List (List Value)} {ch:Seg} (i:Nat) (hi:L[i]? =some ch) (hown:JD e ie.size v css ch)
  {A:Option Addr} {m c:Nat} {news:List (List Value)} (hm:news.length=m) (hn: ∀cs∈news,cs.length=ie.size) (h1: ∀cs∈news,∀u∈cs,u.oneCell'=true)
  (hr:0<m→ ∃a,A=some a∧Zo μ L a news.flatten) (h63:css.length+m≤maxLen) (hb:(css.length+m)*ie.bytes≤140737488355328)
  (hk: ∀v' ch',JD e ie.size v' (css++news) ch'→(css++news=[]→v'=v∨A≠none)→k v' μ (L.set i ch')) :
  YV P (Builtin.append_ #[t,t] ty #[v,.slice A m c]) μ L k:=by
 intro w hw;have hself:L.set i ch=L:=by
  apply List.ext_getElem?;intro j
  by_cases hj:i=j
  ·subst hj;have hlt:i<L.length:=by
    rcases Nat.lt_or_ge i L.length with h | h
    ·exact h
    ·rw[List.getElem?_eq_none h] at hi;cases hi
   have he1:L[i]=ch:=by rw[List.getElem?_eq_getElem hlt] at hi;injection hi
   simp[List.getElem?_set,hlt,he1]
  ·simp[List.getElem?_set,hj]
 have hperm:=Zz hi;obtain ⟨j,hj1,hj2,hj3,hj4⟩:=QbQ hT he;have hut:=QeI hT ht hu (by simp);have hchw: ∀c∈ch,w.heap[c.1]? =some c.2:=fun c hc=>hw.own c (List.mem_flatten.2 ⟨ch,List.mem_of_getElem? hi,hc⟩);have hrow:=hown.row hchw;rcases Nat.eq_zero_or_pos m with h0 | h0
 ·
  subst h0;have hne:news=[]:=List.eq_nil_of_length_eq_zero hm;subst hne;have hrun:(Builtin.append_ #[t,t] ty #[v,.slice A 0 c]).run P w= .ok v w:=by
   obtain ⟨A',cap,rfl,hc1,hc2⟩:=hown.form;cases A<;>cases A'<;>simp[Builtin.append_,run_underlying hut,sizeOf,typeInfo,hj1,Builtin.lenOf,hc1,Builtin.firstCells,loadCells,loadCellsFrom,storeCells]
  refine ⟨v,w,μ,L,hrun,Gh.le.refl _,hw,?_⟩;have:=hk v ch (by simpa using hown) (fun _=> .inl rfl)
  rwa [hself] at this
 ·obtain ⟨
      a,rfl,hcs⟩:=hr h0
  obtain ⟨v',w',hrun,h2,h3,_,h5⟩:=run_append_own_at (P:=P) w 0 t ty e j ie.zero ie.size ie.bytes hut hj1 hj4 hj3 hj2 hz hsz v css.length css.flatten hrow a m c news.flatten (by rw[Yq hn,hm])
   (fun j u hu=>hw.holds.cell (hcs j u hu)) (fun u hu=>by obtain ⟨cs,h6,h7⟩:=List.mem_flatten.1 hu;exact h1 cs h6 u h7) h63 hb (Nat.zero_le _)
  have hlen:css.length+m=(css++news).length:=by rw[List.length_append,hm]
  rw[hlen,←List.flatten_append] at h2
  have hnn:(css++news).length≠0:=by rw[←hlen];omega
  rcases h2.2 with ⟨_,hz0⟩ | ⟨g,cap,cur,rfl,_,hg,hc1,hc2,hc3,hc4⟩
  ·exact absurd hz0 hnn
  ·have hgo:g=w.heap.size∨ ∃o,ch=[(g,o)]:=by
    simp only[Value.ownBlock] at h5
    rcases h5 with h5 | h5
    ·rcases hown.2 with ⟨rfl,_,_⟩ | ⟨g',cap',cur',rfl,rfl,_⟩
     ·simp at h5
     ·simp at h5;subst h5;exact .inr ⟨_,rfl⟩
    ·injection h5 with h5;exact .inl h5
   refine ⟨_,w',μ,L.set i [(g,.cells cur e (0,0))],hrun,Gh.le.refl _,?_,hk _ _ ⟨?_,.inr ⟨g,cap,cur,rfl,rfl,hc1,hc2,hc3,hc4⟩⟩ (fun h=>absurd (by rw[h];rfl) hnn)⟩
   ·
    have hw1:Inv w μ (ch::L.set i []):=hw.perm hperm;have hsub:(L.set i []).flatten.Sublist (ch::L.set i []).flatten:=by simp
    have hown': ∀c∈(L.set i []).flatten,c.1≠g∧c.1<w.heap.size∧some c.1≠v.ownBlock:=by
     intro c hc;have hlt:=Zt (hw1.own c (hsub.subset hc));have hnd:=hw1.nd
     simp only[List.flatten_cons,List.map_append,List.nodup_append] at hnd
     have hnch: ∀d∈ch,d.1≠c.1:=fun d hd=>hnd.2.2 d.1 (List.mem_map.2 ⟨d,hd,rfl⟩) c.1 (List.mem_map.2 ⟨c,hc,rfl⟩);refine ⟨?_,hlt,?_⟩
     ·rcases hgo with rfl | ⟨o,rfl⟩
      ·omega
      ·exact fun e=>hnch (g,o) (by simp) e.symm
     ·rcases hown.2 with ⟨rfl,_,_⟩ | ⟨g',cap',cur',rfl,rfl,_⟩
      ·simp[Value.ownBlock]
      ·simp only[Value.ownBlock,ne_eq,Option.some.injEq]
       exact fun q=>hnch (g',.cells cur' e (0,0)) (by simp) q.symm
    have hkeep: ∀c∈(L.set i []).flatten,w'.heap[c.1]? =some c.2:=fun c hc=>by
     obtain ⟨_,h6,h7⟩:=hown' c hc
     rw[h3.block c.1 h6 h7]
     exact hw1.own c (hsub.subset hc)
    have hgm:μ.mem g=none:=by
     rcases hgo with rfl | ⟨o,rfl⟩
     ·cases hx:μ.mem w.heap.size with
      | none=>rfl
      | some x=>have:=Zt (hw.mem _ _ hx);omega
     ·exact hw1.sep (g,o) (by simp)
    have hfin:Inv w' μ ([(g,.cells cur e (0,0))]::L.set i []):=by
     refine ⟨h3.os.trans hw.os,h3.output.trans hw.out,h3.tape.trans hw.tape,fun b o hb=> ?_,fun c hc=> ?_,fun c hc=> ?_,?_⟩
     ·have h6:=hw.mem b o hb
      rw[h3.block b (Zt h6) ?_];exact h6
      intro he1;rcases hown.2 with ⟨rfl,_,_⟩ | ⟨g',cap',cur',rfl,rfl,_⟩
      ·simp[Value.ownBlock] at he1
      ·simp only[Value.ownBlock,Option.some.injEq] at he1
       subst he1;have:=hw1.sep (b,.cells cur' e (0,0)) (by simp)
       rw[hb] at this;cases this
     ·simp only[List.flatten_cons,List.singleton_append,List.mem_cons] at hc
      rcases hc with rfl | hc
      ·exact hg
      ·exact hkeep c hc
     ·simp only[List.flatten_cons,List.singleton_append,List.mem_cons] at hc
      rcases hc with rfl | hc
      ·exact hgm
      ·exact hw1.sep c (hsub.subset hc)
     ·simp only[List.flatten_cons,List.singleton_append,List.map_cons,List.nodup_cons]
      refine ⟨fun hmem=> ?_,?_⟩
      ·obtain ⟨c,hc,he⟩:=List.mem_map.1 hmem;exact (hown' c hc).1 he
      ·exact (hsub.map _).nodup hw1.nd
    refine hfin.perm ?_;have hi':(L.set i [(g,Obj.cells cur e (0,0))])[i]? =some [(g,.cells cur e (0,0))]:=by
     have:i<L.length:=by
      rcases Nat.lt_or_ge i L.length with h | h
      ·exact h
      ·rw[List.getElem?_eq_none h] at hi;cases hi
     simp[this]
    have:=Zz hi'
    rw[List.set_set] at this
    exact this.symm
   ·intro cs hcs';rcases List.mem_append.1 hcs' with h | h
    ·exact hown.1 cs h
    ·exact hn cs h
end
end Go.Proofs.YtilbengnjgglhaaGreat
namespace Go.Proofs.YtilbengnjgglhaaGreat
open Go.RowKit
set_option linter.unusedSimpArgs false
set_option linter.unusedVariables false
structure VR (kd:IntKind) (es:Array MapEntry) (c:Nat) (m:List (Int×Value)):Prop where
 ps:es.toList.map (fun e=>(e.key,e.val))=m.map (fun p=>(Value.int kd p.1,p.2))
 nd:(m.map (·.1)).Nodup
 born:(es.toList.map (·.born)).Nodup
 lt: ∀e∈es.toList,e.born<c
def V0 (n:Int):List (Int×Value)→Option Value
 | []=>none
 | p::r=>if p.1=n then some p.2 else V0 n r
def QdJ (n:Int) (v:Value):List (Int×Value)→List (Int×Value)
 | []=>[(n,v)]
 | p::r=>if p.1=n then (n,v)::r else p::QdJ n v r
theorem VR.nil {kd:IntKind}:VR kd #[] 0 []:=⟨rfl,List.nodup_nil,List.nodup_nil,by simp⟩
theorem QhV {kd:IntKind}: ∀{es:List MapEntry} {m:List (Int×Value)},es.map (fun e=>(e.key,e.val))=m.map (fun p=>(Value.int kd p.1,p.2))→QaL kd es
 | [],_,_=>by intro e he;cases he
 | e::es,[],h=>by simp at h
 | e::es,p::m,h=>by
  simp only[List.map_cons,List.cons.injEq,Prod.mk.injEq] at h
  intro x hx;rcases List.mem_cons.1 hx with rfl | hx
  ·exact ⟨_,h.1.1⟩
  ·exact QhV h.2 x hx
theorem Qgt {kd:IntKind} (n:Int): ∀{es:List MapEntry} {m:List (Int×Value)},es.map (fun e=>(e.key,e.val))=m.map (fun p=>(Value.int kd p.1,p.2))→Qa2 n es=V0 n m
 | [],[],_=>rfl
 | [],p::m,h=>by simp at h
 | e::es,[],h=>by simp at h
 | e::es,p::m,h=>by
  simp only[List.map_cons,List.cons.injEq,Prod.mk.injEq] at h
  simp only[Qa2,h.1.1,V0,h.1.2,Qgt n h.2]
theorem VR.keys {kd:IntKind} {es:Array MapEntry} {c:Nat} {m:List (Int×Value)} (h:VR kd es c m):QaL kd es.toList:=QhV h.ps
theorem VR.find {kd:IntKind} {es:Array MapEntry} {c:Nat} {m:List (Int×Value)} (h:VR kd es c m) (n:Int):Qa2 n es.toList=V0 n m:=Qgt n h.ps
theorem VR.size {kd:IntKind} {es:Array MapEntry} {c:Nat} {m:List (Int×Value)} (h:VR kd es c m):es.size=m.length:=by
 have:=congrArg List.length h.ps
 simpa using this
theorem Qef (kd:IntKind) (n:Int): ∀(es:List MapEntry) (i:Nat) {m:List (Int×Value)},es.map (fun e=>(e.key,e.val))=m.map (fun p=>(Value.int kd p.1,p.2)) →
  (Instr.findNow (.int kd) (.int kd n) es i=some none∧V0 n m=none) ∨
  ∃j v,Instr.findNow (.int kd) (.int kd n) es i=some (some (i+j,v))∧V0 n m=some v∧j<es.length∧(es[j]?).map (·.key)=some (.int kd n) ∧
   ∀u,QdJ n u m=m.set j (n,u)
 | [],i,[],_=> .inl ⟨rfl,rfl⟩
 | [],i,p::m,h=>by simp at h
 | e::es,i,[],h=>by simp at h
 | e::es,i,p::m,h=>by
  simp only[List.map_cons,List.cons.injEq,Prod.mk.injEq] at h
  obtain ⟨⟨h1,h2⟩,h3⟩:=h
  by_cases hn:p.1=n
  ·refine .inr ⟨0,e.val,?_,by simp[V0,hn,h2],by simp,by simp[h1,hn],fun u=>by simp[QdJ,hn]⟩
   simp[Instr.findNow,Instr.sameNow,h1,hn]
  ·have hne:(n==p.1)=false:=by simpa using fun e=>hn e.symm
   rcases Qef kd n es (i+1) h3 with ⟨h4,h5⟩ | ⟨j,v,h4,h5,h6,h7,h8⟩
   ·exact .inl ⟨by simp[Instr.findNow,Instr.sameNow,h1,hne,h4],by simp[V0,hn,h5]⟩
   ·refine .inr ⟨j+1,v,?_,by simp[V0,hn,h5],by simp;omega,by simpa using h7,fun u=>by simp[QdJ,hn,h8 u]⟩
    simp only[Instr.findNow,Instr.sameNow,h1,if_true,hne,h4]
    congr 3
    omega
theorem QgH (n:Int) (u:Value): ∀{m:List (Int×Value)},V0 n m=none→QdJ n u m=m++[(n,u)]∧n∉m.map (·.1)
 | [],_=>⟨rfl,by simp⟩
 | p::m,h=>by
  simp only[V0] at h
  by_cases hn:p.1=n
  ·rw[if_pos hn] at h;cases h
  ·rw[if_neg hn] at h
   obtain ⟨h1,h2⟩:=QgH n u h;refine ⟨by simp[QdJ,hn,h1],?_⟩
   simp only[List.map_cons,List.mem_cons,not_or]
   exact ⟨fun e=>hn e.symm,h2⟩
theorem VR.push {kd:IntKind} {es:Array MapEntry} {c:Nat} {m:List (Int×Value)} (h:VR kd es c m) {n:Int} {v:Value} (hn:V0 n m=none) :
  VR kd (es.push { key:= .int kd n,val:=v,born:=c }) (c+1) (QdJ n v m):=by
 obtain ⟨h1,h2⟩:=QgH n v hn;refine ⟨by rw[h1];simp[h.ps],by rw[h1];simp[List.nodup_append];exact ⟨h.nd,fun a b hb e=>h2 (by subst e;simp;exact ⟨b,hb⟩)⟩,?_,?_⟩
 ·simp[List.nodup_append]
  refine ⟨h.born,fun e he hb=> ?_⟩;have:=h.lt e (by simpa using he)
  omega
 ·intro e he
  simp at he
  rcases he with he | rfl
  ·have:=h.lt e (by simpa using he);omega
  ·simp
theorem Qa5 {α β:Type} (f:α→β) (g:α→α) (l:List α) (j:Nat) (h: ∀x,l[j]? =some x→f (g x)=f x):(l.modify j g).map f=l.map f:=by
 apply List.ext_getElem?;intro i
 simp only[List.getElem?_map,List.getElem?_modify]
 by_cases hij:j=i
 ·subst hij;cases hx:l[j]? with
  | none=>rfl
  | some x=>simp[h x hx]
 ·simp[hij]
theorem Qbn {α β:Type} (f:α→β) (g:α→α) (l:List α) (j:Nat) (y:β) (h: ∀x,l[j]? =some x→f (g x)=y):(l.modify j g).map f=(l.map f).set j y:=by
 apply List.ext_getElem?;intro i
 simp only[List.getElem?_map,List.getElem?_modify,List.getElem?_set,List.length_map]
 by_cases hij:j=i
 ·subst hij;cases hx:l[j]? with
  | none =>
   have hge:l.length≤j:=by
    rcases Nat.lt_or_ge j l.length with h | h
    ·rw[List.getElem?_eq_getElem h] at hx;cases hx
    ·exact h
   simp;omega
  | some x =>
   have hlt:j<l.length:=by
    rcases Nat.lt_or_ge j l.length with h | h
    ·exact h
    ·rw[List.getElem?_eq_none h] at hx;cases hx
   simp[hlt,h x hx]
 ·simp[hij]
theorem VR.put {kd:IntKind} {es:Array MapEntry} {c:Nat} {m:List (Int×Value)} (h:VR kd es c m) {n:Int} {v:Value} {j:Nat}
  (hj:(es.toList[j]?).map (·.key)=some (.int kd n)) (hs:QdJ n v m=m.set j (n,v)) (hjl:j<es.size) :
  VR kd (es.modify j fun e=>{ e with key:= .int kd n,val:=v }) c (QdJ n v m):=by
 have hl:=h.size;refine ⟨?_,?_,?_,?_⟩
 ·have h1:=Qbn (fun e:MapEntry=>(e.key,e.val)) (fun e=>{ e with key:= .int kd n,val:=v }) es.toList j (Value.int kd n,v) (fun x _=>rfl)
  rw[Array.toList_modify,h1,h.ps,hs,List.map_set]
 ·have hk:(m.set j (n,v)).map (·.1)=m.map (·.1):=by
   apply List.ext_getElem?;intro i
   simp only[List.getElem?_map,List.getElem?_set]
   by_cases hij:j=i
   ·subst hij;have h1:=congrArg (fun l=>l[j]?) h.ps
    simp only[List.getElem?_map] at h1
    have hjm:j<m.length:=by omega
    cases hx:es.toList[j]? with
    | none=>rw[hx] at hj;cases hj
    | some x =>
     rw[hx] at hj h1
     simp only[Option.map_some,Option.some.injEq] at hj
     rw[List.getElem?_eq_getElem hjm] at h1 ⊢
     simp only[Option.map_some,Option.some.injEq,Prod.mk.injEq,hj,Value.int.injEq,true_and] at h1
     simp[hjm,h1.1]
   ·simp[hij]
  rw[hs,hk];exact h.nd
 ·have h1:=Qa5 (fun e:MapEntry=>e.born) (fun e=>{ e with key:= .int kd n,val:=v }) es.toList j (fun x _=>rfl)
  rw[Array.toList_modify,h1];exact h.born
 ·intro e he
  rw[Array.toList_modify] at he
  obtain ⟨i,hi⟩:=List.getElem?_of_mem he
  rw[List.getElem?_modify] at hi
  cases hx:es.toList[i]? with
  | none=>rw[hx] at hi;cases hi
  | some x =>
   rw[hx] at hi
   have:=h.lt x (List.mem_of_getElem? hx)
   by_cases hji:j=i
   ·simp[hji] at hi;subst hi;exact this
   ·simp[hji] at hi;subst hi;exact this
section
variable {P:Program} {T:TT} {μ:Gh} {L:List Seg}
theorem Inv.updObj {w:World} {i j:Nat} {s:Seg} {g:Nat} {o o':Obj} (h:Inv w μ L) (hi:L[i]? =some s) (hj:s[j]? =some (g,o)) :
  Inv { w with heap:=w.heap.setIfInBounds g o' } μ (L.set i (s.set j (g,o'))):=by
 have hb:=h.own _ (List.mem_flatten.2 ⟨s,List.mem_of_getElem? hi,List.mem_of_getElem? hj⟩);have hlt:=Zt hb
 simp only at hlt
 refine h.upd (w':={ w with heap:=w.heap.setIfInBounds g o' }) hi hj rfl rfl rfl ?_ fun k hk=> ?_
 ·simp[hlt]
 ·simp[Array.getElem?_setIfInBounds_ne (Ne.symm hk)]
theorem QaW (w:World) (r:Nat) (o o':Obj) (hc: ∀a b c,o≠ .cells a b c) (h:w.heap[r]? =some o):(setObj r o').run P w= .ok () { w with heap:=w.heap.setIfInBounds r o' }:=by
 cases o<;>first | exact absurd rfl (hc _ _ _) | simp only[setObj,Sem.run,h]
theorem QgQ (hT:TOk P T) {t kt et:TypeId} {it ik:TyI} {kd:IntKind} (ht:T t=some it) (hu:it.u= .map kt et) (hkt:T kt=some ik) (hku:ik.u= .int kd)
  (i j:Nat) {s:Seg} {r:Nat} {es:Array MapEntry} {c:Nat} {m:List (Int×Value)} (hi:L[i]? =some s) (hj:s[j]? =some (r,.map es c)) (hm:VR kd es c m) {n:Int} {v:Value} {k:Gh→List Seg→Prop}
  (hk: ∀es' c',VR kd es' c' (QdJ n v m)→k μ (L.set i (s.set j (r,.map es' c')))):WH P (Instr.mapUpdate t (.map (some r)) (.int kd n) v) μ L k:=by
 intro w hw;have hb:w.heap[r]? =some (.map es c):=hw.own (r,_) (List.mem_flatten.2 ⟨s,List.mem_of_getElem? hi,List.mem_of_getElem? hj⟩);have hc: ∀b,(Instr.checkKey b 10000 kt (.int kd n)).run P w= .ok () w:=fun b=>Vz hT hkt hku b 9999 _ w;rcases Qef kd n es.toList 0 hm.ps with ⟨h1,h2⟩ | ⟨jj,x,h1,h2,h3,h4,h5⟩
 ·refine ⟨_,μ,_,?_,Gh.le.refl _,hw.updObj hi hj (o':= .map (es.push { key:= .int kd n,val:=v,born:=c }) (c+1)),hk _ _ (hm.push h2)⟩
  simp only[Instr.mapUpdate,Sem.run_bind,Q8 hT ht hu (by simp),Result.andThen_ok,JJ w _ _ (by simp) hb,hc,Instr.findKey,Q8 hT hkt hku (by simp),h1,Sem.run_pure,QaW w r _ _ (by simp) hb]
 ·have hjl:jj<es.size:=by simpa using h3
  refine ⟨_,μ,_,?_,Gh.le.refl _,hw.updObj hi hj (o':= .map (es.modify jj fun e=>{ e with key:= .int kd n,val:=v }) c),hk _ _ (hm.put h4 (h5 v) hjl)⟩;have hold:((es[jj]?).map (·.key)).getD (.int kd n)= .int kd n:=by
   have:(es[jj]?).map (·.key)=some (.int kd n):=by rw[←h4];simp
   rw[this];rfl
  have hks:(Instr.keyThatStays (.int kd n) (.int kd n)).run P w= .ok (.int kd n) w:=by
   simp[Instr.keyThatStays,Instr.sameBits]
  simp only[Instr.mapUpdate,Sem.run_bind,Q8 hT ht hu (by simp),Result.andThen_ok,JJ w _ _ (by simp) hb,hc,Instr.findKey,Q8 hT hkt hku (by simp),h1,Sem.run_pure,Nat.zero_add,hold,hks,QaW w r _ _ (by simp) hb]
end
end Go.Proofs.YtilbengnjgglhaaGreat
namespace Go.Proofs.YtilbengnjgglhaaGreat
open Go.RowKit
set_option linter.unusedSimpArgs false
set_option linter.unusedVariables false
def Rd (μ:Gh) (L:List Seg) (A:Option Addr) (sz:Nat) (css:List (List Value)):Prop :=
 (∀cs∈css,cs.length=sz)∧(css≠[]→ ∃a,A=some a∧Zo μ L a css.flatten)
section
variable {μ:Gh} {L:List Seg}
theorem Qgu {sz:Nat}: ∀{css:List (List Value)} {k:Nat} {v:Value},(∀cs∈css,cs.length=sz)→css.flatten[k]? =some v →
  ∃i j cs,css[i]? =some cs∧cs[j]? =some v∧k=i*sz+j
 | [],k,v,_,h=>by simp at h
 | c::r,k,v,hl,h=>by
  have hc:=hl c (by simp)
  rw[List.flatten_cons] at h
  by_cases hk:k<c.length
  ·rw[List.getElem?_append_left hk] at h
   exact ⟨0,k,c,by simp,h,by simp⟩
  ·rw[List.getElem?_append_right (by omega)] at h
   obtain ⟨i,j,cs,h1,h2,h3⟩:=Qgu (fun c hc=>hl c (by simp[hc])) h;exact ⟨i+1,j,cs,by simpa using h1,h2,by rw[Nat.succ_mul];omega⟩
theorem Arr.rd {A:Option Addr} {sz:Nat} {css:List (List Value)} (h:Arr μ A sz css):Rd μ L A sz css:=by
 have hl: ∀cs∈css,cs.length=sz:=fun cs hcs=>by
  obtain ⟨i,hi⟩:=List.getElem?_of_mem hcs;exact (h i cs hi).1
 refine ⟨hl,fun hne=> ?_⟩;have h0:0<css.length:=List.length_pos_iff.2 hne;obtain ⟨_,a,ha,_⟩:=h 0 css[0] (List.getElem?_eq_getElem h0);refine ⟨a,ha,fun k v hk=> ?_⟩;obtain ⟨i,j,cs,h1,h2,rfl⟩:=Qgu hl hk;obtain ⟨a',ha',hc⟩:=h.at_ (L:=L) h1
 rw[ha] at ha'
 injection ha' with ha'
 subst ha';have:=hc j v h2
 rwa [Addr.add_add'] at this
theorem Rd.at_ {A:Option Addr} {sz:Nat} {css:List (List Value)} (h:Rd μ L A sz css) {i:Nat} {cs:List Value} (hi:css[i]? =some cs): ∃a,A=some a∧Zo μ L (a.add (i*sz)) cs:=by
 obtain ⟨a,ha,hc⟩:=h.2 (fun e=>by rw[e] at hi;cases hi);refine ⟨a,ha,fun j v hj=> ?_⟩
 rw[Addr.add_add']
 exact hc _ v (Qeg h.1 hi hj)
theorem Rd.mono {A:Option Addr} {sz:Nat} {css:List (List Value)} {μ':Gh} {L':List Seg} (h:Rd μ L A sz css) (hm:μ.le μ') (hl: ∀c∈L.flatten,c∈L'.flatten):Rd μ' L' A sz css :=
 ⟨h.1,fun hne=>by obtain ⟨a,ha,hc⟩:=h.2 hne;exact ⟨a,ha,hc.mono hm hl⟩⟩
theorem Rd.cons {A:Option Addr} {sz:Nat} {css:List (List Value)} {s:Seg} (h:Rd μ L A sz css):Rd μ (s::L) A sz css:=h.mono (Gh.le.refl _) (by intro c hc;simp[List.flatten_cons];exact .inr (by simpa using hc))
theorem Rd.nil {A:Option Addr} {sz:Nat}:Rd μ L A sz []:=⟨by simp,fun h=>absurd rfl h⟩
theorem JD.rd {e:TypeId} {sz:Nat} {A:Option Addr} {n cap:Nat} {css:List (List Value)} {ch:Seg} (h:JD e sz (.slice A n cap) css ch) (i:Nat) (hi:L[i]? =some ch):Rd μ L A sz css:=by
 refine ⟨h.1,fun hne=> ?_⟩;rcases h.2 with ⟨_,rfl,_⟩ | ⟨g,cap',cur,hv,rfl,h1,h2,h3,h4⟩
 ·exact absurd rfl hne
 ·injection hv with hv _ _
  refine ⟨_,hv,fun k v hk=> ?_⟩
  rw[Wm]
  refine ZW.seg i 0 hi rfl ?_
  rw[←h4] at hk
  rw[List.getElem?_take] at hk
  split at hk
  ·simpa using hk
  ·cases hk
theorem Rd.chunk (i:Nat) {g:Nat} {cs:List Value} {e:TypeId} {f:Nat×Nat} {sz:Nat} {css:List (List Value)} (hi:L[i]? =some [(g,.cells cs.toArray e f)]) (hl: ∀c∈css,c.length=sz) (hc:cs=css.flatten) :
  Rd μ L (some ⟨g,0,none⟩) sz css :=
 ⟨hl,fun _=>⟨_,rfl,fun k v hk=>by rw[Wm];exact ZW.seg i 0 hi rfl (by simpa [hc] using hk)⟩⟩
end
section
variable {P:Program} {T:TT} {μ:Gh} {L:List Seg} {k:Value→Gh→List Seg→Prop}
theorem Qh3 (hT:TOk P T) {t ty e:TypeId} {it ie:TyI} (ht:T t=some it) (hu:it.u= .slice e) (he:T e=some ie) (hz:ie.zero.cells.size=ie.size) (hsz:0<ie.size)
  {v:Value} {css:List (List Value)} {ch:Seg} (i:Nat) (hi:L[i]? =some ch) (hown:JD e ie.size v css ch)
  {A:Option Addr} {m c:Nat} {news:List (List Value)} (hm:news.length=m) (hr:Rd μ L A ie.size news) (h1: ∀cs∈news,∀u∈cs,u.oneCell'=true)
  (h63:css.length+m≤140737488355328) (hb:(css.length+m)*ie.bytes≤140737488355328)
  (hk: ∀v' ch',JD e ie.size v' (css++news) ch'→(css++news=[]→v'=v∨A≠none)→k v' μ (L.set i ch')) :
  YV P (Builtin.append_ #[t,t] ty #[v,.slice A m c]) μ L k :=
 QhA hT ht hu he hz hsz i hi hown hm hr.1 h1 (fun h=>hr.2 (fun e=>by rw[e] at hm;simp at hm;omega)) (by unfold maxLen;omega) hb hk
theorem QeW (hT:TOk P T) {t ty e:TypeId} {it ie:TyI} (ht:T t=some it) (hu:it.u= .slice e) (he:T e=some ie) (hz:ie.zero.cells.size=ie.size) (hsz:0<ie.size)
  {A B:Option Addr} {n c m d:Nat} {css news:List (List Value)} (hcl:css.length=n) (hr:Rd μ L A ie.size css) (hml:news.length=m) (hs:Rd μ L B ie.size news) (hm0:0<m)
  (hgrow:c<n+m) (hq:(n+m)*ie.bytes≤140737488355328) (hq2:n+m≤140737488355328)
  (hk: ∀v' ch',JD e ie.size v' (css++news) ch'→k v' μ (ch'::L)) :
  YV P (Builtin.append_ #[t,t] ty #[.slice A n c,.slice B m d]) μ L k:=by
 intro w hw;have hut:=QeI hT ht hu (by simp);obtain ⟨j,hj1,hj2,hj3,hj4⟩:=QbQ hT he;have first: ∀{A:Option Addr} {n c:Nat} {css:List (List Value)},css.length=n→Rd μ L A ie.size css→(Builtin.firstCells ie.size n (.slice A n c)).run P w.drew= .ok css.flatten.toArray w.drew:=by
  intro A n c css hcl hr;have hfl:=Yq hr.1
  by_cases h0:css=[]
  ·subst h0
   simp at hcl;subst hcl
   cases A<;>simp[Builtin.firstCells,loadCells,loadCellsFrom]
  ·obtain ⟨a,rfl,hc⟩:=hr.2 h0;have:=run_loadCells_list (P:=P) (w:=w.drew) a css.flatten (fun j v hj=>hw.drew.holds.cell (hc j v hj))
   rw[hfl,hcl] at this
   simp only[Builtin.firstCells,this]
 have hf:=first (c:=c) hcl hr;have hg:=first (c:=d) hml hs;have hfl:=Yq hr.1;have hgl:=Yq hs.1;have hcap:=growslice_fits (need:=n+m) (old:=c) (bytes:=ie.bytes) (by omega) hq;have hn: ¬(n+m≤c):=by omega
 have h63': ¬(9223372036854775807<((n:Int)+(m:Int))):=by omega
 have h48': ¬(281474976710656<Builtin.nextslicecap (n+m) c*j.bytes):=by rw[hj2];omega
 have hrun:(Builtin.append_ #[t,t] ty #[.slice A n c,.slice B m d]).run P w =
   .ok (.slice (some ⟨w.heap.size,0,none⟩) (n+m) (grownCap w (n+m) c e))
    (w.drew.alloc (.cells (css.flatten.toArray++news.flatten.toArray++Builtin.zeroCells ie.zero.cells (grownCap w (n+m) c e-(n+m))) e)):=by
  simp[Builtin.append_,run_underlying hut,sizeOf,typeInfo,zeroValue,hj1,hj3,hj4,Builtin.lenOf,hn,h63',h48',Question.forced,hf,hg,newRow,grownCap]
  rw[←Array.append_assoc]
  simp only[List.append_toArray]
 have hge:=grownCap_ge w (n+m) c e;have hcm:=grownCap_le_maxLen w (n+m) c e (by unfold maxLen;omega);refine ⟨_,_,μ,_,hrun,Gh.le.refl _,hw.drew.alloc _,hk _ _ ⟨?_,.inr ⟨w.heap.size,_,_,?_,rfl,?_,hcm,?_,?_⟩⟩⟩
 ·intro cs hcs;rcases List.mem_append.1 hcs with h | h
  ·exact hr.1 cs h
  ·exact hs.1 cs h
 ·simp[hcl,hml]
 ·simp[hcl,hml];exact hge
 ·simp only[Array.size_append,List.size_toArray,size_zeroCells,hz,hfl,hcl,hgl,hml]
  rw[←Nat.add_mul,←Nat.add_mul]
  congr 1
  omega
 ·have h3:(css++news).flatten.length=(css++news).length*ie.size:=by
   refine Yq fun cs hcs=> ?_;rcases List.mem_append.1 hcs with h | h
   ·exact hr.1 cs h
   ·exact hs.1 cs h
  rw[←h3]
  simp only[Array.toList_append,List.toList_toArray,List.flatten_append]
  exact List.take_left
end
end Go.Proofs.YtilbengnjgglhaaGreat
namespace Go.Proofs.YtilbengnjgglhaaGreat
open Go.RowKit
set_option linter.unusedSimpArgs false
set_option linter.unusedVariables false
def evV (fr:Fr) (x:Operand):Option Value:=match x with
 | .tmp t=>JZ fr t
 | .const v=>some v
 | .global g=>some (.pointer (some ⟨g,0,none⟩))
 | .func f=>some (.func (.func f) #[] #[])
def Vw (fr:Fr):List Operand→Option (List Value)
 | []=>some []
 | x::xs=>match evV fr x with
  | some v=>(match Vw fr xs with | some vs=>some (v::vs) | none=>none)
  | none=>none
def QfK (fr:Fr):List (Nat×Operand)→Option (List (Nat×Value))
 | []=>some []
 | x::xs=>match evV fr x.2 with
  | some v=>(match QfK fr xs with | some vs=>some ((x.1,v)::vs) | none=>none)
  | none=>none
section
variable {P:Program} {T:TT} {N:NN} {fr:Fr} {μ:Gh} {L:List Seg}
theorem ev_of {x:Operand} {v:Value} {k:Value→Prop} (h:evV fr x=some v) (hk:k v):ev fr x k:=by
 cases x with
 | tmp t=>simp only[evV] at h;simp only[ev,evT,h];exact hk
 | const u=>simp only[evV,Option.some.injEq] at h;subst h;exact hk
 | global g=>simp only[evV,Option.some.injEq] at h;subst h;exact hk
 | func f=>simp only[evV,Option.some.injEq] at h;subst h;exact hk
theorem evs_of: ∀{xs:List Operand} {vs:List Value} {k:List Value→Prop},Vw fr xs=some vs→k vs→evs fr xs k
 | [],vs,k,h,hk=>by simp only[Vw,Option.some.injEq] at h;subst h;exact hk
 | x::xs,vs,k,h,hk=>by
  simp only[Vw] at h
  cases h1:evV fr x with
  | none=>rw[h1] at h;cases h
  | some v =>
   cases h2:Vw fr xs with
   | none=>rw[h1,h2] at h;cases h
   | some us =>
    rw[h1,h2] at h
    simp only[Option.some.injEq] at h
    subst h;exact ev_of h1 (evs_of (k:=fun vs=>k (v::vs)) h2 hk)
theorem Qhe: ∀{xs:List (Nat×Operand)} {vs:List (Nat×Value)} {k:List (Nat×Value)→Prop},QfK fr xs=some vs→k vs→evp fr xs k
 | [],vs,k,h,hk=>by simp only[QfK,Option.some.injEq] at h;subst h;exact hk
 | x::xs,vs,k,h,hk=>by
  simp only[QfK] at h
  cases h1:evV fr x.2 with
  | none=>rw[h1] at h;cases h
  | some v =>
   cases h2:QfK fr xs with
   | none=>rw[h1,h2] at h;cases h
   | some us =>
    rw[h1,h2] at h
    simp only[Option.some.injEq] at h
    subst h;exact ev_of h1 (Qhe (k:=fun vs=>k ((x.1,v)::vs)) h2 hk)
section
variable {k:Value→Prop}
theorem YY {x:Operand} {v:Value} (h:evV fr x=some v) (hk:k v):vcR P T (.move x) fr μ L k:=ev_of h hk
theorem Qd0 {x:Operand} {v:Value} (h:evV fr x=some v) (hk:k v):vcR P T (.assign x) fr μ L k:=ev_of h hk
theorem QiL {c a b:Operand} {v:Value} (h:evV fr c=some (.bool true)) (h2:evV fr a=some v) (hk:k v):vcR P T (.pick c a b) fr μ L k:=ev_of (k:=fun v=>QcK v (ev fr a k) (ev fr b k)) h (ev_of h2 hk)
theorem QiK {c a b:Operand} {v:Value} (h:evV fr c=some (.bool false)) (h2:evV fr b=some v) (hk:k v):vcR P T (.pick c a b) fr μ L k:=ev_of (k:=fun v=>QcK v (ev fr a k) (ev fr b k)) h (ev_of h2 hk)
theorem Zq {t:TypeId} {a:Operand} {ad:Addr} {i:TyI} (h:evV fr a=some (.pointer (some ad))) (hT:T t=some i) (hi:QeN i.u=false) (hk:Ex (ZW μ L ad) k):vcR P T (.load t a) fr μ L k:=by
 refine ev_of (k:=fun v=>Qbm T μ L t v k) h ?_
 simp only[Qbm,hT,hi];exact hk
theorem Wb {t:TypeId} {a:Operand} {ad:Addr} {i:TyI} {n:Nat} (h:evV fr a=some (.pointer (some ad))) (hT:T t=some i) (hi:QeN i.u=true) (hn:i.size=n)
  (hk:Ex (fun vs:List Value=>vs.length=n∧Zo μ L ad vs) fun vs=>k (.agg vs.toArray)):vcR P T (.load t a) fr μ L k:=by
 refine ev_of (k:=fun v=>Qbm T μ L t v k) h ?_
 simp only[Qbm,hT,hi,hn];exact hk
theorem Jt {x:Operand} {a:Addr} (h:evV fr x=some (.pointer (some a))) (hk:k (.pointer (some a))):vcR P T (.nilCheck x) fr μ L k:=ev_of (k:=fun v=>Qj5 v k) h hk
theorem QkM {x:Operand} {f:FuncId} {a b:Array Value} (h:evV fr x=some (.func (.func f) a b)) (hk:k (.func (.func f) a b)):vcR P T (.nilCheck x) fr μ L k:=ev_of (k:=fun v=>Qj5 v k) h hk
theorem WJ {op:BinOp} {t yt:TypeId} {x y:Operand} {kd:IntKind} {a b:Int} (h:evV fr x=some (.int kd a)) (h2:evV fr y=some (.int kd b)) (hop:op≠ .shl∧op≠ .shr∧op≠ .and)
  (hk:QfP op kd a b k):vcR P T (.binOp op t x y yt) fr μ L k:=by
 refine ev_of (k:=fun a=>ev fr y fun b=>Wn P T op t a b k) h (ev_of (k:=fun b=>Wn P T op t (.int kd a) b k) h2 ?_);have hs: ∀p:Prop,p→Qfp kd kd p:=by intro p hp;cases kd<;>exact hp
 cases op<;>first | exact hs _ hk | exact absurd rfl hop.1 | exact absurd rfl hop.2.1 | exact absurd rfl hop.2.2
section
variable {t yt:TypeId} {x y:Operand} {kd:IntKind} {a b:Int}
theorem Qki (h:evV fr x=some (.int kd a)) (h2:evV fr y=some (.int kd b)) (hk:k (.int kd (kd.wrap (a+b)))):vcR P T (.binOp .add t x y yt) fr μ L k:=WJ h h2 (by simp) hk
theorem Qlv (h:evV fr x=some (.int kd a)) (h2:evV fr y=some (.int kd b)) (hk:k (.int kd (kd.wrap (a-b)))):vcR P T (.binOp .sub t x y yt) fr μ L k:=WJ h h2 (by simp) hk
theorem Qlm (h:evV fr x=some (.int kd a)) (h2:evV fr y=some (.int kd b)) (hk:k (.int kd (kd.wrap (a*b)))):vcR P T (.binOp .mul t x y yt) fr μ L k:=WJ h h2 (by simp) hk
theorem Qlr (h:evV fr x=some (.int kd a)) (h2:evV fr y=some (.int kd b)) (hk:b≠0∧k (.int kd (kd.wrap (a.tdiv b)))):vcR P T (.binOp .quo t x y yt) fr μ L k:=WJ h h2 (by simp) hk
theorem Qls (h:evV fr x=some (.int kd a)) (h2:evV fr y=some (.int kd b)) (hk:b≠0∧k (.int kd (a.tmod b))):vcR P T (.binOp .rem t x y yt) fr μ L k:=WJ h h2 (by simp) hk
theorem QiI (h:evV fr x=some (.int kd a)) (h2:evV fr y=some (.int kd b)) (ht:a=b→k (.bool true)) (hf: ¬a=b→k (.bool false)):vcR P T (.binOp .eql t x y yt) fr μ L k:=WJ h h2 (by simp) ⟨ht,hf⟩
theorem Qlp (h:evV fr x=some (.int kd a)) (h2:evV fr y=some (.int kd b)) (ht: ¬a=b→k (.bool true)) (hf:a=b→k (.bool false)):vcR P T (.binOp .neq t x y yt) fr μ L k:=WJ h h2 (by simp) ⟨ht,fun h=>hf (Classical.not_not.1 h)⟩
theorem Qlj (h:evV fr x=some (.int kd a)) (h2:evV fr y=some (.int kd b)) (ht:a<b→k (.bool true)) (hf: ¬a<b→k (.bool false)):vcR P T (.binOp .lss t x y yt) fr μ L k:=WJ h h2 (by simp) ⟨ht,hf⟩
theorem Qli (h:evV fr x=some (.int kd a)) (h2:evV fr y=some (.int kd b)) (ht:a≤b→k (.bool true)) (hf: ¬a≤b→k (.bool false)):vcR P T (.binOp .leq t x y yt) fr μ L k:=WJ h h2 (by simp) ⟨ht,hf⟩
theorem Qlh (h:evV fr x=some (.int kd a)) (h2:evV fr y=some (.int kd b)) (ht:b<a→k (.bool true)) (hf: ¬b<a→k (.bool false)):vcR P T (.binOp .gtr t x y yt) fr μ L k:=WJ h h2 (by simp) ⟨ht,hf⟩
theorem Qlg (h:evV fr x=some (.int kd a)) (h2:evV fr y=some (.int kd b)) (ht:b≤a→k (.bool true)) (hf: ¬b≤a→k (.bool false)):vcR P T (.binOp .geq t x y yt) fr μ L k:=WJ h h2 (by simp) ⟨ht,hf⟩
theorem Qlt {kd':IntKind} (h:evV fr x=some (.int kd a)) (h2:evV fr y=some (.int kd' b)) (hk:Ex (Ji P (Op.shift .shl kd a kd' b)) k):vcR P T (.binOp .shl t x y yt) fr μ L k :=
 ev_of (k:=fun a=>ev fr y fun b=>Wn P T .shl t a b k) h (ev_of (k:=fun u=>Wn P T .shl t (.int kd a) u k) h2 hk)
theorem Qlu {kd':IntKind} (h:evV fr x=some (.int kd a)) (h2:evV fr y=some (.int kd' b)) (hk:Ex (Ji P (Op.shift .shr kd a kd' b)) k):vcR P T (.binOp .shr t x y yt) fr μ L k :=
 ev_of (k:=fun a=>ev fr y fun b=>Wn P T .shr t a b k) h (ev_of (k:=fun u=>Wn P T .shr t (.int kd a) u k) h2 hk)
theorem QhK (h:evV fr x=some (.int kd a)) (h2:evV fr y=some (.int kd b)) (hk:Ex (Ji P (Op.intBits .and kd a b)) k):vcR P T (.binOp .and t x y yt) fr μ L k :=
 ev_of (k:=fun a=>ev fr y fun b=>Wn P T .and t a b k) h (ev_of (k:=fun u=>Wn P T .and t (.int kd a) u k) h2 (by cases kd<;>exact hk))
end
theorem Wp {t:TypeId} {f:TypeDesc→Bool} {p:Prop} {i:TyI} (hT:T t=some i) (hf:f i.u=true) (hp:p):Qa0 T t f p:=by
 unfold Qa0;rw[hT];simp only[hf];exact hp
section
variable {t yt:TypeId} {x y:Operand} {i:TyI}
theorem QiH {a b:Bool} (h:evV fr x=some (.bool a)) (h2:evV fr y=some (.bool b)) (hT:T t=some i) (hf:Qhh i.u=true) (ht:a=b→k (.bool true)) (hf: ¬a=b→k (.bool false)):vcR P T (.binOp .eql t x y yt) fr μ L k :=
 ev_of (k:=fun a=>ev fr y fun b=>Wn P T .eql t a b k) h (ev_of (k:=fun u=>Wn P T .eql t (.bool a) u k) h2 (Wp hT (by assumption) ⟨ht,hf⟩))
theorem Qln {a b:Bool} (h:evV fr x=some (.bool a)) (h2:evV fr y=some (.bool b)) (hT:T t=some i) (hf:Qhh i.u=true) (ht: ¬a=b→k (.bool true)) (hf:a=b→k (.bool false)):vcR P T (.binOp .neq t x y yt) fr μ L k :=
 ev_of (k:=fun a=>ev fr y fun b=>Wn P T .neq t a b k) h (ev_of (k:=fun u=>Wn P T .neq t (.bool a) u k) h2 (Wp hT (by assumption) ⟨ht,fun h=>hf (Classical.not_not.1 h)⟩))
theorem Qg4 (h:evV fr x=some (.pointer none)) (h2:evV fr y=some (.pointer none)) (hT:T t=some i) (hf:Qdr i.u=true) (hk:k (.bool true)):vcR P T (.binOp .eql t x y yt) fr μ L k :=
 ev_of (k:=fun a=>ev fr y fun b=>Wn P T .eql t a b k) h (ev_of (k:=fun u=>Wn P T .eql t (.pointer none) u k) h2 (Wp hT hf ⟨fun _=>hk,fun h=>absurd rfl h⟩))
theorem Qg5 {a:Addr} (h:evV fr x=some (.pointer (some a))) (h2:evV fr y=some (.pointer none)) (hT:T t=some i) (hf:Qdr i.u=true) (hk:k (.bool false)):vcR P T (.binOp .eql t x y yt) fr μ L k :=
 ev_of (k:=fun a=>ev fr y fun b=>Wn P T .eql t a b k) h (ev_of (k:=fun u=>Wn P T .eql t (.pointer (some a)) u k) h2 (Wp hT hf ⟨fun h=>(by cases h),fun _=>hk⟩))
theorem QkJ (h:evV fr x=some (.pointer none)) (h2:evV fr y=some (.pointer none)) (hT:T t=some i) (hf:Qdr i.u=true) (hk:k (.bool false)):vcR P T (.binOp .neq t x y yt) fr μ L k :=
 ev_of (k:=fun a=>ev fr y fun b=>Wn P T .neq t a b k) h (ev_of (k:=fun u=>Wn P T .neq t (.pointer none) u k) h2 (Wp hT hf ⟨fun h=>absurd rfl h,fun _=>hk⟩))
theorem QkK {a:Addr} (h:evV fr x=some (.pointer (some a))) (h2:evV fr y=some (.pointer none)) (hT:T t=some i) (hf:Qdr i.u=true) (hk:k (.bool true)):vcR P T (.binOp .neq t x y yt) fr μ L k :=
 ev_of (k:=fun a=>ev fr y fun b=>Wn P T .neq t a b k) h (ev_of (k:=fun u=>Wn P T .neq t (.pointer (some a)) u k) h2 (Wp hT hf ⟨fun _=>hk,fun h=>absurd (by intro h;cases h) h⟩))
theorem Qkj {p:Option Addr} {n c n' c':Nat} (h:evV fr x=some (.slice p n c)) (h2:evV fr y=some (.slice none n' c')) (hT:T t=some i) (hf:Qbk i.u=true) (ht:p=none→k (.bool true)) (hf2: ¬p=none→k (.bool false)) :
  vcR P T (.binOp .eql t x y yt) fr μ L k :=
 ev_of (k:=fun a=>ev fr y fun b=>Wn P T .eql t a b k) h (ev_of (k:=fun u=>Wn P T .eql t (.slice p n c) u k) h2 (Wp hT hf ⟨ht,hf2⟩))
theorem Qga {op:BinOp} {xs ys:Array Value} (h:evV fr x=some (.agg xs)) (h2:evV fr y=some (.agg ys))
  (hk:Ex (Ji P (do eqGuard op t (.tmp 0) (.tmp 0) (.agg xs) (.agg ys);binOp op t (.agg xs) (.agg ys))) k):vcR P T (.binOp op t x y yt) fr μ L k :=
 ev_of (k:=fun a=>ev fr y fun b=>Wn P T op t a b k) h (ev_of (k:=fun u=>Wn P T op t (.agg xs) u k) h2 hk)
end
theorem Qlq {t:TypeId} {x:Operand} {b:Bool} (h:evV fr x=some (.bool b)) (hk:k (.bool !b)):vcR P T (.unOp .not t x) fr μ L k:=ev_of (k:=fun a=>unK .not a k) h hk
theorem Qlo {t:TypeId} {x:Operand} {kd:IntKind} {n:Int} (h:evV fr x=some (.int kd n)) (hk:k (.int kd (kd.wrap (0-n)))):vcR P T (.unOp .neg t x) fr μ L k:=ev_of (k:=fun a=>unK .neg a k) h hk
theorem QkE {args:Array Operand} {tys:Array TypeId} {kd kd':IntKind} {x y n:Int} (h:Vw fr args.toList=some [.int kd x,.int kd' y]) (hn:(if y>x then y else x)=n) (hk:k (.int kd n)):vcR P T (.call ⟨.builtin .max,args,tys⟩) fr μ L k:=evs_of (k:=fun vs=>biK T .max tys.toList vs μ L k) h (by show k (.int kd (if y>x then y else x));rw[hn];exact hk)
theorem Qks {s d:TypeId} {x:Operand} {kd kd':IntKind} {n:Int} {i j:TyI} (h:evV fr x=some (.int kd n)) (hs:T s=some j) (hd:T d=some i) (hu:i.u= .int kd') (hk:k (.int kd' (kd'.wrap n))):vcR P T (.convert s d x) fr μ L k:=by
 refine ev_of (k:=fun a=>Qgn T s d a k) h ?_
 simp only[Qgn,hs,hd,hu,Qin];exact hk
theorem QdQ {t:TypeId} {ps:Array (Nat×Operand)} {vs:List (Nat×Value)} {i:TyI} (h:QfK fr ps.toList=some vs) (hT:T t=some i) (hs:VZ i.u=true) (hall:i.flds.all (·.isSome)=true)
  (hk:Vn (Qjf i) i.zero.cells.toList vs fun cs=>k (.agg cs.toArray)):vcR P T (.build t ps) fr μ L k:=by
 refine Qhe (k:=fun vs=>Qd2 T t vs k) h ?_
 simp only[Qd2,hT,hs];exact ⟨hall,hk⟩
theorem Qkw {s:TypeId} {x:Operand} {f:Nat} {a:Addr} {i:TyI} {q1 q2:Nat} {q3:Bool} (h:evV fr x=some (.pointer (some a))) (hT:T s=some i) (hs:VZ i.u=true) (hf:i.flds[f]? =some (some (q1,q2,q3))) (h0:Nat.beq q2 0=false)
  (hk:k (.pointer (some (a.add q1)))):vcR P T (.fieldAddr s x f) fr μ L k:=by
 refine ev_of (k:=fun v=>faK T s v f k) h ?_
 simp only[faK,hT,hs,hf];exact ⟨Nat.ne_of_beq_eq_false h0,hk⟩
theorem ZR {s:TypeId} {x:Operand} {f g o:Nat} {i:TyI} {q1 q2:Nat} {q3:Bool} (h:evV fr x=some (.pointer (some ⟨g,o,none⟩))) (hT:T s=some i) (hs:VZ i.u=true) (hf:i.flds[f]? =some (some (q1,q2,q3))) (h0:Nat.beq q2 0=false)
  {o':Nat} (ho:o+q1=o') (hk:k (.pointer (some ⟨g,o',none⟩))):vcR P T (.fieldAddr s x f) fr μ L k:=by
 refine Qkw h hT hs hf h0 ?_
 rw[Wm,ho];exact hk
theorem Qlf {s:TypeId} {x:Operand} {f:Nat} {a:Addr} {i:TyI} {q2:Nat} {q3:Bool} (h:evV fr x=some (.pointer (some a))) (hT:T s=some i) (hs:VZ i.u=true) (hf:i.flds[f]? =some (some (0,q2,q3))) (h0:Nat.beq q2 0=false)
  (hk:k (.pointer (some a))):vcR P T (.fieldAddr s x f) fr μ L k:=by
 refine Qkw h hT hs hf h0 ?_
 rw[Addr.add_zero'];exact hk
theorem QjS {s:TypeId} {x:Operand} {f:Nat} {cs:Array Value} {i:TyI} {q1 q2:Nat} {u:Value} (h:evV fr x=some (.agg cs)) (hT:T s=some i) (hs:VZ i.u=true) (hf:i.flds[f]? =some (some (q1,q2,false)))
  (hu:cs.toList[q1]? =some u) (hk:k u):vcR P T (.field s x f) fr μ L k:=by
 refine ev_of (k:=fun v=>Qce T s v f k) h ?_
 simp only[Qce,hT,hs,hf];exact ⟨u,by simpa using hu,hk⟩
theorem QiJ {s:TypeId} {x:Operand} {f:Nat} {cs:Array Value} {i:TyI} {q1 q2:Nat} (h:evV fr x=some (.agg cs)) (hT:T s=some i) (hs:VZ i.u=true) (hf:i.flds[f]? =some (some (q1,q2,true)))
  {vs:List Value} (hu:(cs.toList.drop q1).take q2=vs) (hk:k (.agg vs.toArray)):vcR P T (.field s x f) fr μ L k:=by
 refine ev_of (k:=fun v=>Qce T s v f k) h ?_
 simp only[Qce,hT,hs,hf]
 have:cs.extract q1 (q1+q2)=vs.toArray:=by rw[←hu,←Array.toList_inj];simp[List.extract_eq_take_drop]
 rw[this];exact hk
theorem Qbf {t e:TypeId} {i j:TyI} {k:TypeId→TyI→Prop} (hT:T t=some i) (hu:i.u= .slice e) (he:T e=some j) (hk:k e j):Qdm T t k:=by
 simp only[Qdm,hT,hu,he];exact hk
theorem QlL {t e:TypeId} {x n:Operand} {A:Option Addr} {len c:Nat} {kd:IntKind} {ix:Int} {i j:TyI} {sz:Nat} (h:evV fr x=some (.slice A len c)) (h2:evV fr n=some (.int kd ix)) (hT:T t=some i) (hu:i.u= .slice e) (he:T e=some j) (hs:j.size=sz)
  (hk:0≤ix∧ix<len∧Ex (fun a=>A=some a) fun a=>k (.pointer (some (a.add (ix.toNat*sz))))):vcR P T (.indexAddr t x n) fr μ L k :=
 ev_of (k:=fun v=>ev fr n fun n=>iaK T t v n k) h (ev_of (k:=fun u=>iaK T t (.slice A len c) u k) h2 (Qbf hT hu he (by rw[hs];exact hk)))
theorem Qle {x:Operand} {i:Nat} {vs:Array Value} {u:Value} (h:evV fr x=some (.tuple vs)) (hu:vs.toList[i]? =some u) (hk:k u):vcR P T (.extract x i) fr μ L k:=by
 refine ev_of (k:=fun v=>Qi0 v i k) h ?_;have:vs[i]? =some u:=by simpa using hu
 simp only[Qi0,this];exact hk
theorem Qll {f:Go.Fn} {fi ca:Array Operand} {a b:List Value} (h:Vw fr fi.toList=some a) (h2:Vw fr ca.toList=some b) (hk:k (.func f a.toArray b.toArray)):vcR P T (.makeFunc f fi ca) fr μ L k :=
 evs_of (k:=fun a=>evs fr ca.toList fun b=>k (.func f a.toArray b.toArray)) h (evs_of (k:=fun b=>k (.func f a.toArray b.toArray)) h2 hk)
section
variable {t e:TypeId} {x:Operand} {A:Option Addr} {len cap:Nat} {i j:TyI} {sz:Nat}
theorem QkO {lo:Operand} {kd:IntKind} {a:Int} (h1:evV fr x=some (.slice A len cap)) (h2:evV fr lo=some (.int kd a)) (hT:T t=some i) (hu:i.u= .slice e) (he:T e=some j) (hs:j.size=sz)
  (hk:0≤a∧a≤len∧k (.slice (if cap=a.toNat then A else A.map (·.add (a.toNat*sz))) (len-a.toNat) (cap-a.toNat))):vcR P T (.slice t x (some lo) none none) fr μ L k :=
 ev_of (k:=fun v=>evo fr (some lo) fun l=>evo fr none fun h=>evo fr none fun m=>W7 T t v l h m k) h1 (ev_of (k:=fun u=>W7 T t (.slice A len cap) (some u) none none k) h2 (Qbf hT hu he (by rw[hs];exact hk)))
theorem QkN {hi:Operand} {kd:IntKind} {a:Int} (h1:evV fr x=some (.slice A len cap)) (h2:evV fr hi=some (.int kd a)) (hT:T t=some i) (hu:i.u= .slice e) (he:T e=some j)
  (hk:0≤a∧a≤cap∧k (.slice A a.toNat cap)):vcR P T (.slice t x none (some hi) none) fr μ L k :=
 ev_of (k:=fun v=>evo fr none fun l=>evo fr (some hi) fun h=>evo fr none fun m=>W7 T t v l h m k) h1 (ev_of (k:=fun u=>W7 T t (.slice A len cap) none (some u) none k) h2 (Qbf hT hu he (by
  refine ⟨hk.1,hk.2.1,?_⟩;have e1:(if cap=0 then A else A.map (·.add (0*j.size)))=A:=by
   cases A with
   | none=>simp
   | some a=>simp[Addr.add_zero']
  show k (.slice (if cap=0 then A else A.map (·.add (0*j.size))) (a.toNat-0) (cap-0))
  rw[e1];exact hk.2.2)))
theorem QjU {hi mx:Operand} {kd kd':IntKind} {a:Int} (h1:evV fr x=some (.slice A len cap)) (h2:evV fr hi=some (.int kd a)) (h3:evV fr mx=some (.int kd' a)) (hT:T t=some i) (hu:i.u= .slice e) (he:T e=some j)
  (hk:0≤a∧a≤cap∧k (.slice A a.toNat a.toNat)):vcR P T (.slice t x none (some hi) (some mx)) fr μ L k :=
 ev_of (k:=fun v=>evo fr none fun l=>evo fr (some hi) fun h=>evo fr (some mx) fun m=>W7 T t v l h m k) h1 (ev_of (k:=fun u=>evo fr (some mx) fun m=>W7 T t (.slice A len cap) none (some u) m k) h2
  (ev_of (k:=fun u=>W7 T t (.slice A len cap) none (some (.int kd a)) (some u) k) h3 (Qbf hT hu he (by
  refine ⟨hk.1,hk.2.1,hk.1,by omega,?_⟩;have e1:(if a.toNat=0 then A else A.map (·.add (0*j.size)))=A:=by
   cases A with
   | none=>simp
   | some a=>simp[Addr.add_zero']
  show k (.slice (if a.toNat=0 then A else A.map (·.add (0*j.size))) (a.toNat-0) (a.toNat-0))
  rw[e1];exact hk.2.2))))
end
theorem Qlk {args:Array Operand} {tys:Array TypeId} {kd kd':IntKind} {x y:Int} (h:Vw fr args.toList=some [.int kd x,.int kd' y]) (hk:k (.int kd (if y<x then y else x))):vcR P T (.call ⟨.builtin .min,args,tys⟩) fr μ L k :=
 evs_of (k:=fun vs=>biK T .min tys.toList vs μ L k) h hk
theorem QkG {args:Array Operand} {tys:Array TypeId} {kd kd':IntKind} {x y n:Int} (h:Vw fr args.toList=some [.int kd x,.int kd' y]) (hn:(if y<x then y else x)=n) (hk:k (.int kd n)):vcR P T (.call ⟨.builtin .min,args,tys⟩) fr μ L k:=Qlk h (by rw[hn];exact hk)
theorem Qi5 {args:Array Operand} {t:TypeId} {v:Value} (h:Vw fr args.toList=some [v]) (hk:Qj2 T t v μ L k):vcR P T (.call ⟨.builtin .len,args, #[t]⟩) fr μ L k :=
 evs_of (k:=fun vs=>biK T .len [t] vs μ L k) h hk
theorem QkA {args:Array Operand} {t:TypeId} {A:Option Addr} {n c:Nat} {i:TyI} (h:Vw fr args.toList=some [.slice A n c]) (hT:T t=some i) (hf:Qbk i.u=true) (hk:k (.int .i64 n)):vcR P T (.call ⟨.builtin .len,args, #[t]⟩) fr μ L k :=
 Qi5 h (Wp hT hf hk)
theorem Qkz {args:Array Operand} {t:TypeId} {s:ByteArray} {i:TyI} (h:Vw fr args.toList=some [.string s]) (hT:T t=some i) (hf:QkW i.u=true) (hk:k (.int .i64 s.size)):vcR P T (.call ⟨.builtin .len,args, #[t]⟩) fr μ L k :=
 Qi5 h (Wp hT hf hk)
theorem Qlc {args:Array Operand} {t:TypeId} {A:Option Addr} {n c:Nat} {i:TyI} (h:Vw fr args.toList=some [.slice A n c]) (hT:T t=some i) (hf:Qbk i.u=true) (hk:k (.int .i64 c)):vcR P T (.call ⟨.builtin .cap,args, #[t]⟩) fr μ L k :=
 evs_of (k:=fun vs=>biK T .cap [t] vs μ L k) h (Wp hT hf hk)
theorem QkC {t kt et:TypeId} {m x:Operand} {ok:Bool} {r:Nat} {kd:IntKind} {n:Int} {i ik ie:TyI} {z:Value} (h:evV fr m=some (.map (some r))) (h2:evV fr x=some (.int kd n)) (hT:T t=some i) (hu:i.u= .map kt et) (hk:T kt=some ik) (hku:ik.u= .int kd) (he:T et=some ie) (hz:ie.zero=z)
  (hk:Ex (fun x:Value×Bool=> ∃es c,Wf μ L r (.map es c)∧QaL kd es.toList∧x=(match Qa2 n es.toList with | some v=>(v,true) | none=>(z,false))) fun x=>k (okK ok x.1 x.2)):vcR P T (.lookup t m x ok) fr μ L k:=by
 refine ev_of (k:=fun v=>ev fr x fun n=>QcH P T t v n ok μ L k) h (ev_of (k:=fun n=>QcH P T t (.map (some r)) n ok μ L k) h2 ?_);have hs: ∀p:Prop,p→Qfp kd kd p:=by intro p hp;cases kd<;>exact hp
 simp only[QcH,hT,hu, ‹T kt=some ik›,hku,Qin,he]
 subst hz;exact hs _ hk
end
theorem Za {pl:Nat→Option (Nat×Nat)} {cells:List Value} {k:List Value→Prop} (h:k cells):Vn pl cells [] k:=h
theorem QP {pl:Nat→Option (Nat×Nat)} {cells cells':List Value} {k:List Value→Prop} {i:Nat} {v:Value} {r:List (Nat×Value)} {q1 q2:Nat} (hp:pl i=some (q1,q2)) (h1:v.cells.size=q2) (h2:Nat.ble (q1+q2) cells.length=true)
  (h3:WY cells q1 v.cells.toList=cells') (h:Vn pl cells' r k):Vn pl cells ((i,v)::r) k:=by
 simp only[Vn,hp]
 exact ⟨h1,Nat.le_of_ble_eq_true h2,by rw[h3];exact h⟩
def QgA:Op→Bool
 | .move _ | .assign _ | .pick .. | .load .. | .nilCheck _ | .binOp .. | .unOp .. | .convert .. | .build .. | .fieldAddr .. | .field .. | .indexAddr .. | .extract .. | .makeFunc .. | .slice .. | .lookup .. | .index .. =>true
 | .call ⟨.builtin b,_,_⟩=>(match b with | .len | .cap | .min | .max=>true | _=>false)
 | _=>false
section
variable {k:Value→Gh→List Seg→Prop} {ty:TypeId}
theorem VG {o:Op} (h:QgA o=true) (hk:vcR P T o fr μ L fun v=>k v μ L):vcO P T o ty fr μ L k:=by
 cases o<;>first | exact hk | (simp[QgA] at h;done) | skip
 rename_i c
 obtain ⟨ce,args,tys⟩:=c;cases ce with
 | value f=>simp[QgA] at h
 | invoke r m=>simp[QgA] at h
 | builtin b=>cases b<;>first | exact hk | (simp[QgA] at h;done)
theorem Q5 {t:TypeId} {a x:Operand} {ad:Addr} {v:Value} {i:TyI} (h:evV fr a=some (.pointer (some ad))) (h2:evV fr x=some v) (hT:T t=some i) (hs:v.cells.size=i.size) (h1:v.cells.toList.all (·.oneCell')=true)
  {vs:List Value} (hv:v.cells.toList=vs) (hk:Ex (QaG L ad vs) fun L'=>k undef μ L'):vcO P T (.store t a x) ty fr μ L k:=by
 refine ev_of (k:=fun p=>ev fr x fun v=>Qcn T t p v L fun L'=>k undef μ L') h (ev_of (k:=fun v=>Qcn T t (.pointer (some ad)) v L fun L'=>k undef μ L') h2 ?_)
 simp only[Qcn,hT]
 subst hv;exact ⟨hs,fun c hc=>List.all_eq_true.1 h1 c (by simpa using hc),hk⟩
theorem QaD {t:TypeId} {i:TyI} {cs:Array Value} (hT:T t=some i) (hz:i.zero.cells=cs) (hk: ∀g,k (.pointer (some ⟨g,0,none⟩)) μ ([(g,.cells cs t)]::L)):vcO P T (.alloc t) ty fr μ L k:=by
 simp only[vcO,Qg7,hT,hz];exact hk
theorem Qla {t:TypeId} {x:Operand} {v:Value} {cs:Array Value} (h:evV fr x=some v) (hc:v.cells=cs) (hk: ∀g,k (.pointer (some ⟨g,0,none⟩)) μ ([(g,.cells cs t)]::L)):vcO P T (.box t x) ty fr μ L k:=by
 refine ev_of (k:=fun v=> ∀g,k (.pointer (some ⟨g,0,none⟩)) μ ([(g,.cells v.cells t)]::L)) h ?_
 rw[hc];exact hk
theorem Zp {t e:TypeId} {n:Nat} {ps:Array (Nat×Operand)} {vs:List (Nat×Value)} {i j:TyI} (h:QfK fr ps.toList=some vs) (hT:T t=some i) (hu:i.u= .slice e) (he:T e=some j) (hn:Nat.ble (n*j.size) 16777216=true) (hz:j.zero.cells.size=j.size)
  {z:List Value} (hz2:cyc j.zero.cells.toList n=z) (hk:Vn (fun i=>some (i*j.size,j.size)) z vs fun cs=> ∀g,k (.slice (some ⟨g,0,none⟩) n n) μ ([(g,.cells cs.toArray e)]::L)):vcO P T (.buildSlice t n ps) ty fr μ L k:=by
 refine Qhe (k:=fun vs=>Qd3 T t n vs fun e cs=> ∀g,k (.slice (some ⟨g,0,none⟩) n n) μ ([(g,.cells cs.toArray e)]::L)) h ?_;exact Qbf hT hu he ⟨Nat.le_of_ble_eq_true hn,hz,by rw[hz2];exact hk⟩
theorem QhI {t:TypeId} (hk: ∀g,k (.map (some g)) μ ([(g,.map #[] 0)]::L)):vcO P T (.makeMap t none) ty fr μ L k:=hk
theorem QdZ {t:TypeId} {l c:Operand} {a b:Value} (h:evV fr l=some a) (h2:evV fr c=some b) (hk:YV P (Instr.makeSlice t a b) μ L k):vcO P T (.makeSlice t l c) ty fr μ L k :=
 ev_of (k:=fun a=>ev fr c fun b=>YV P (Instr.makeSlice t a b) μ L k) h (ev_of (k:=fun b=>YV P (Instr.makeSlice t a b) μ L k) h2 hk)
theorem Qdi {t:TypeId} {m x v:Operand} {a b c:Value} (h:evV fr m=some a) (h2:evV fr x=some b) (h3:evV fr v=some c) (hk:WH P (Instr.mapUpdate t a b c) μ L fun μ' L'=>k undef μ' L'):vcO P T (.mapUpdate t m x v) ty fr μ L k :=
 ev_of (k:=fun a=>ev fr x fun b=>ev fr v fun c=>WH P (Instr.mapUpdate t a b c) μ L fun μ' L'=>k undef μ' L') h (ev_of (k:=fun b=>ev fr v fun c=>WH P (Instr.mapUpdate t a b c) μ L fun μ' L'=>k undef μ' L') h2
  (ev_of (k:=fun c=>WH P (Instr.mapUpdate t a b c) μ L fun μ' L'=>k undef μ' L') h3 hk))
theorem Qbc {f:Operand} {args:Array Operand} {tys:Array TypeId} {g:FuncId} {fi ca:Array Value} {vs all:List Value} (h:evV fr f=some (.func (.func g) fi ca)) (h2:Vw fr args.toList=some vs) (ha:fi.toList++vs++ca.toList=all)
  (hk:Fn P g all μ L k):vcO P T (.call ⟨.value f,args,tys⟩) ty fr μ L k:=by
 refine ev_of (k:=fun fv=>evs fr args.toList fun vs=>Qgk P fv vs μ L k) h (evs_of (k:=fun vs=>Qgk P (.func (.func g) fi ca) vs μ L k) h2 ?_)
 show Fn P g (fi.toList++vs++ca.toList) μ L k
 rw[ha];exact hk
theorem Yy {args:Array Operand} {tys:Array TypeId} {vs:List Value} (h:Vw fr args.toList=some vs) (hk:YV P (Builtin.append_ tys ty vs.toArray) μ L k):vcO P T (.call ⟨.builtin .append,args,tys⟩) ty fr μ L k :=
 evs_of (k:=fun vs=>biO P T .append tys ty vs μ L k) h hk
theorem QjQ {args:Array Operand} {tys:Array TypeId} {vs:List Value} (h:Vw fr args.toList=some vs) (hk:YV P (Builtin.clear_ tys ty vs.toArray) μ L k):vcO P T (.call ⟨.builtin .clear,args,tys⟩) ty fr μ L k :=
 evs_of (k:=fun vs=>biO P T .clear tys ty vs μ L k) h hk
end
section
variable {ops r:List Oper} {dst:Option Tmp} {op:Op} {ty:TypeId} {pos:String} {aft:Array Edge} {K:QW} {j:Nat} {w:Bool} {d:Tmp}
theorem Qkh (h:K fr μ L):Qa7 P T N ops [] fr μ L K:=h
theorem QiG (h:vcO P T op ty fr μ L fun v μ' L'=>Zv N dst v fr fun fr'=>Qa7 P T N ops r fr' μ' L' K):Qa7 P T N ops (⟨dst,op,ty,pos,aft,none⟩::r) fr μ L K:=h
theorem Yc {v:Value} {k:Fr→Prop} (hd:Nat.blt d N.n=true) (h:k ((d,v)::fr)):Zv N (some d) v fr k:=⟨by simpa [Nat.blt_eq] using hd,h⟩
theorem JS {v:Value} {k:Fr→Prop} (h:k fr):Zv N none v fr k:=h
variable {μ0:Gh} {keep:List Seg} {pl:List (Bool×Nat)} {i:Nat}
theorem J1 (h:K fr μ L):ZN P T N ops μ0 keep [] fr μ L K:=h
theorem Qct (hi:Jx ops i=some ⟨dst,op,ty,pos,aft,none⟩) (h:vcR P T op fr μ0 keep fun v=>Zv N dst v fr fun fr'=>ZN P T N ops μ0 keep pl fr' μ L K):ZN P T N ops μ0 keep ((true,i)::pl) fr μ L K:=by
 simp only[ZN,hi];exact h
theorem WV (hi:Jx ops i=some ⟨dst,op,ty,pos,aft,none⟩) (h:vcO P T op ty fr μ L fun v μ' L'=>QI keep L'∧Zv N dst v fr fun fr'=>ZN P T N ops μ0 keep pl fr' μ' L' K):ZN P T N ops μ0 keep ((false,i)::pl) fr μ L K:=by
 simp only[ZN,hi];exact h
def VY (P:Program) (T:TT) (N:NN) (ops:List Oper) (μ0:Gh) (keep:List Seg) (fuel:Nat) (listed:List Bool) (K:QW) (fr:Fr) (μ:Gh) (L:List Seg) (i:Nat):Prop :=
 ∃o,ops[i]? =some o∧ZV ops fr o.guard (vcO P T o.op o.type fr μ L fun v μ' L'=>QI keep L'∧Zv N o.dst v fr fun fr'=>AN P N ops μ0 keep fuel (listed.set i true) K fr' μ' L')
   (Zv N o.dst undef fr fun fr'=>AN P N ops μ0 keep fuel (listed.set i true) K fr' μ L)
variable {fuel:Nat} {listed:List Bool}
theorem QjP (hT:TOk P T) {a b:Nat} (hr:Region.ready .any ops.toArray listed.toArray=[a,b]) (h1:VY P T N ops μ0 keep fuel listed K fr μ L a) (h2:VY P T N ops μ0 keep fuel listed K fr μ L b) :
  AN P N ops μ0 keep (fuel+1) listed K fr μ L:=by
 refine AN.fork hT hr rfl fun i hi=> ?_
 simp only[List.mem_cons,List.not_mem_nil,or_false] at hi
 rcases hi with rfl | rfl
 ·exact h1
 ·exact h2
theorem FO_ {listed':List Bool} (hi:Jx ops i=some ⟨dst,op,ty,pos,aft,none⟩) (hl:listed.set i true=listed') (h:vcO P T op ty fr μ L fun v μ' L'=>QI keep L'∧Zv N dst v fr fun fr'=>AN P N ops μ0 keep fuel listed' K fr' μ' L') :
  VY P T N ops μ0 keep fuel listed K fr μ L i:=⟨_,by rw[←VK];exact hi,by rw[hl];exact h⟩
theorem AN.run (hT:TOk P T) (plan:List (Bool×Nat)) {listed':List Bool} {n:Nat} (hs:Region.noSelect ops.toArray=true) (hp:JH ops plan listed=some listed') (hn:fuel+plan.length=n)
  (h:ZN P T N ops μ0 keep plan fr μ L (AN P N ops μ0 keep fuel listed' K)):AN P N ops μ0 keep n listed K fr μ L:=by
 rw[←hn];exact AN.steps hT hs plan listed hp h
end
section
variable {K:QW} {B:Nat→QW} {R:QW}
theorem Qcw {c:Operand} {x y:Code} (h:evV fr c=some (.bool true)) (hk:WP P N x K B R fr μ L):WP P N (.cond c x y) K B R fr μ L:=WP.cond (ev_of (k:=fun v=>QcK v (WP P N x K B R fr μ L) (WP P N y K B R fr μ L)) h hk)
theorem Qcv {c:Operand} {x y:Code} (h:evV fr c=some (.bool false)) (hk:WP P N y K B R fr μ L):WP P N (.cond c x y) K B R fr μ L:=WP.cond (ev_of (k:=fun v=>QcK v (WP P N x K B R fr μ L) (WP P N y K B R fr μ L)) h hk)
theorem Qgd {c:Operand} {x y:Code} {b:Bool} (h:evV fr c=some (.bool b)) (ht:b=true→WP P N x K B R fr μ L) (hf:b=false→WP P N y K B R fr μ L):WP P N (.cond c x y) K B R fr μ L:=by
 refine WP.cond (ev_of (k:=fun v=>QcK v (WP P N x K B R fr μ L) (WP P N y K B R fr μ L)) h ?_);cases b
 ·exact hf rfl
 ·exact ht rfl
theorem Qkm {k:List Value→Prop} (h:k []):Vs T [] fr μ L k:=h
theorem QiO {t:Tmp} {r:List ResultVar} {k:List Value→Prop} {v:Value} (h:JZ fr t=some v) (hk:Vs T r fr μ L fun vs=>k (v::vs)):Vs T (.tmp t::r) fr μ L k:=by
 simp only[Vs,h,evT];exact hk
end
end
theorem ST_ {L L':List Seg} {k:List Seg→Prop} (i j:Nat) {s:Seg} {g off:Nat} {cs:Array Value} {e:TypeId} {vs:List Value} (hi:L[i]? =some s) (hj:s[j]? =some (g,.cells cs e (0,0))) (hl:Nat.ble (off+vs.length) cs.size=true)
  (hL:L.set i (s.set j (g,.cells (WY cs.toList off vs).toArray e (0,0)))=L') (hk:k L'):Ex (QaG L ⟨g,off,none⟩ vs) k:=Ex.mk _ (QaG.seg i j hi hj (Nat.le_of_ble_eq_true hl)) (by rw[hL];exact hk)
theorem LA_ {μ:Gh} {L:List Seg} {k:List Value→Prop} (i j:Nat) {s:Seg} {g off n:Nat} {cs:Array Value} {e:TypeId} {f:Nat×Nat} {vs:List Value} (hi:L[i]? =some s) (hj:s[j]? =some (g,.cells cs e f))
  (hv:(cs.toList.drop off).take n=vs) (hl:Nat.beq vs.length n=true) (hk:k vs):Ex (fun vs:List Value=>vs.length=n∧Zo μ L ⟨g,off,none⟩ vs) k:=by
 have hl:=Nat.eq_of_beq_eq_true hl;exact Ex.mk vs ⟨hl,Zo.seg i j hi hj (by rw[hl];exact hv)⟩ hk
theorem AN.done0 {P:Program} {N:NN} {ops:List Oper} {μ0 μ:Gh} {keep L:List Seg} {listed:List Bool} {K:QW} {fr:Fr} (hr:Region.ready .any ops.toArray listed.toArray=[]) (h:K fr μ L):AN P N ops μ0 keep 0 listed K fr μ L:=AN.done hr h
theorem Qk8 {L L':List Seg} {s:Seg} (h:L.flatten.Perm L'.flatten):(s::L).flatten.Perm (s::L').flatten:=by simp only[List.flatten_cons];exact h.append_left _
theorem QjF {L:List Seg} {i:Nat} {s:Seg} (hi:L[i]? =some s):L.set i s=L:=by
 refine List.ext_getElem? fun k=> ?_
 by_cases hk:i=k
 ·subst hk
  rw[List.getElem?_set_self (by
   rcases Nat.lt_or_ge i L.length with h | h
   ·exact h
   ·rw[List.getElem?_eq_none h] at hi;cases hi),hi]
 ·rw[List.getElem?_set_ne hk]
theorem QI.more {L L':List Seg} {s:Seg} (h:QI L L'):QI L (s::L'):=fun c hc=>by simp only[List.flatten_cons,List.mem_append];exact .inr (h c hc)
end Go.Proofs.YtilbengnjgglhaaGreat
namespace Go.Proofs.YtilbengnjgglhaaGreat
open Go.RowKit
set_option linter.unusedSimpArgs false
set_option linter.unusedVariables false
theorem QgR {L:List Seg} {i j:Nat} {t:Seg} (hij:i≠j) (hj:L[j]? =some t):(L.set i [])[j]? =some t:=by
 rw[List.getElem?_set_ne hij];exact hj
theorem Inv.apart {w:World} {μ:Gh} {L:List Seg} (h:Inv w μ L) {i j:Nat} {s t:Seg} (hij:i≠j) (hi:L[i]? =some s) (hj:L[j]? =some t) {c d:Qf9} (hc:c∈s) (hd:d∈t):c.1≠d.1:=by
 have h1:=(h.perm (Zz hi)).nd
 simp only[List.flatten_cons,List.map_append,List.nodup_append] at h1
 exact h1.2.2 c.1 (List.mem_map.2 ⟨c,hc,rfl⟩) d.1 (List.mem_map.2 ⟨d,List.mem_flatten.2 ⟨t,List.mem_of_getElem? (QgR hij hj),hd⟩,rfl⟩)
theorem JD.open {e:TypeId} {sz n:Nat} {v:Value} {css:List (List Value)} {ch:Seg} (h:JD e sz v css ch) (hn:css.length=n) (h0:0<n) :
  ∃g cap tl,v= .slice (some ⟨g,0,none⟩) n cap∧ch=[(g,.cells (css.flatten++tl).toArray e (0,0))]∧n≤cap∧cap≤maxLen∧css.flatten.length+tl.length=cap*sz:=by
 rcases h.2 with ⟨_,rfl,_⟩ | ⟨g,cap,cur,rfl,rfl,h1,h2,h3,h4⟩
 ·simp at hn;omega
 ·refine ⟨g,cap,cur.toList.drop (n*sz),by rw[hn],?_,by omega,h2,?_⟩
  ·rw[←hn,←h4,List.take_append_drop]
  ·rw[←h4,hn,←List.length_append,List.take_append_drop];simpa using h3
theorem JD.of {e:TypeId} {sz n g cap:Nat} {css:List (List Value)} {l tl:List Value} (h: ∀cs∈css,cs.length=sz) (hl:l=css.flatten++tl) (hn:css.length=n) (hc:n≤cap) (hm:cap≤maxLen) (hlen:css.flatten.length+tl.length=cap*sz) :
  JD e sz (.slice (some ⟨g,0,none⟩) n cap) css [(g,.cells l.toArray e (0,0))]:=by
 refine ⟨h,.inr ⟨g,cap,l.toArray,by rw[hn],rfl,by omega,hm,by rw[List.size_toArray,hl,List.length_append,hlen],?_⟩⟩;have:=Yq h
 simp only[hl,←this,List.take_left]
theorem Qke {L:List Seg} {i:Nat} {s:Seg} (s':Seg) (hi:L[i]? =some s):(L.set i s')[i]? =some s':=by
 refine List.getElem?_set_self ?_;rcases Nat.lt_or_ge i L.length with h | h
 ·exact h
 ·rw[List.getElem?_eq_none h] at hi;cases hi
theorem QaG.at {L:List Seg} {g off:Nat} {l l' vs:List Value} {e:TypeId} (i:Nat) (hi:L[i]? =some [(g,.cells l.toArray e (0,0))]) (hl:WY l off vs=l') (hlen:off+vs.length≤l.length) :
  QaG L ⟨g,off,none⟩ vs (L.set i [(g,.cells l'.toArray e (0,0))]):=by
 have:=QaG.seg (L:=L) (off:=off) (vs:=vs) i 0 hi rfl (by simpa using hlen)
 simpa [hl] using this
section
variable {μ:Gh} {L:List Seg}
theorem Rd.take {A:Option Addr} {sz:Nat} {css:List (List Value)} (h:Rd μ L A sz css) (k:Nat):Rd μ L A sz (css.take k):=by
 refine ⟨fun cs hc=>h.1 cs (List.mem_of_mem_take hc),fun hne=> ?_⟩;obtain ⟨a,ha,hc⟩:=h.2 (fun e=>hne (by rw[e];simp));refine ⟨a,ha,fun j v hj=>hc j v ?_⟩;have:css.flatten=(css.take k).flatten++(css.drop k).flatten:=by rw[←List.flatten_append,List.take_append_drop]
 rw[this,List.getElem?_append_left (by
  rcases Nat.lt_or_ge j (css.take k).flatten.length with h | h
  ·exact h
  ·rw[List.getElem?_eq_none h] at hj;cases hj)]
 exact hj
theorem Rd.drop {A:Option Addr} {sz:Nat} {css:List (List Value)} (h:Rd μ L A sz css) {k:Nat} (hk:k<css.length): ∃a,A=some a∧Zo μ L (a.add (k*sz)) (css.drop k).flatten:=by
 obtain ⟨a,ha,hc⟩:=h.2 (fun e=>by rw[e] at hk;simp at hk);refine ⟨a,ha,fun j v hj=> ?_⟩
 rw[Addr.add_add']
 refine hc _ v ?_;have h1:css.flatten=(css.take k).flatten++(css.drop k).flatten:=by rw[←List.flatten_append,List.take_append_drop]
 have h2:(css.take k).flatten.length=k*sz:=by
  rw[Yq fun cs hc=>h.1 cs (List.mem_of_mem_take hc),List.length_take,Nat.min_eq_left (by omega)]
 rw[h1,List.getElem?_append_right (by omega),h2,Nat.add_sub_cancel_left]
 exact hj
end
theorem WP.arr {P:Program} {N:NN} {c:Code} {K:QW} {B:Nat→QW} {Rk:QW} {fr:Fr} {μ:Gh} {L:List Seg} {e:TypeId} {sz n cap:Nat} {A:Option Addr} {css:List (List Value)} {ch:Seg} (i:Nat) (hi:L[i]? =some ch) (hown:JD e sz (.slice A n cap) css ch)
  (h: ∀μ',μ.le μ'→Arr μ' A sz css→WP P N c K B Rk fr μ' (L.set i [])):WP P N c K B Rk fr μ L:=by
 refine WP.upd (Upd.arr i hi hown fun A' cap' μ' hv _ _ hm hA=>Upd.done ?_);injection hv with hv _ _
 subst hv;exact h μ' hm hA
end Go.Proofs.YtilbengnjgglhaaGreat
