/- TopLeaseVend: for every input the given law returns true, and its arguments read as before. No condition. -/
import Derived.Test.YtfdjjdhnfaklbaaChecked
import Derived.Test.Ytfdjjdhnfaklbaac2x0
import Derived.KernelRfl
import Derived.Maps.AppendAt
import Derived.Lib.Overlaps
namespace Go.Proofs.Ytfdjjdhnfaklbaa
def TtL:List (Nat×TyI):=[
 (1,⟨(Go.TypeDesc.func #[] #[] false),1,8,Go.Value.nilFunc,[]⟩),
 (2,⟨(Go.TypeDesc.int Go.IntKind.i64),1,8,(Go.Value.int Go.IntKind.i64 0),[]⟩),
 (3,⟨(Go.TypeDesc.int Go.IntKind.i64),1,8,(Go.Value.int Go.IntKind.i64 0),[]⟩),
 (4,⟨Go.TypeDesc.bool,1,1,(Go.Value.bool false),[]⟩),
 (5,⟨(Go.TypeDesc.int Go.IntKind.u8),1,1,(Go.Value.int Go.IntKind.u8 0),[]⟩),
 (9,⟨Go.TypeDesc.string,1,16,(Go.Value.string { data:= #[] }),[]⟩),
 (12,⟨(Go.TypeDesc.int Go.IntKind.u64),1,8,(Go.Value.int Go.IntKind.u64 0),[]⟩),
 (21,⟨(Go.TypeDesc.int Go.IntKind.i32),1,4,(Go.Value.int Go.IntKind.i32 0),[]⟩),
 (22,⟨(Go.TypeDesc.struct #[]),5,48,(Go.Value.agg #[(Go.Value.string { data:= #[] }),(Go.Value.int Go.IntKind.i64 0),(Go.Value.int Go.IntKind.i64 0),(Go.Value.int Go.IntKind.i64 0),(Go.Value.int Go.IntKind.i64 0)]),[some (0,1,false),some (1,1,false),some (2,1,false),some (3,1,false),some (4,1,false)]⟩),
 (23,⟨(Go.TypeDesc.struct #[]),5,48,(Go.Value.agg #[(Go.Value.string { data:= #[] }),(Go.Value.int Go.IntKind.i64 0),(Go.Value.int Go.IntKind.i64 0),(Go.Value.int Go.IntKind.i64 0),(Go.Value.int Go.IntKind.i64 0)]),[some (0,1,false),some (1,1,false),some (2,1,false),some (3,1,false),some (4,1,false)]⟩),
 (24,⟨(Go.TypeDesc.slice 71),1,24,(Go.Value.slice none 0 0),[]⟩),
 (25,⟨(Go.TypeDesc.slice 39),1,24,(Go.Value.slice none 0 0),[]⟩),
 (26,⟨(Go.TypeDesc.slice 23),1,24,(Go.Value.slice none 0 0),[]⟩),
 (27,⟨(Go.TypeDesc.int Go.IntKind.i64),1,8,(Go.Value.int Go.IntKind.i64 0),[]⟩),
 (28,⟨(Go.TypeDesc.func #[26,3,3] #[27] false),1,8,Go.Value.nilFunc,[]⟩),
 (29,⟨(Go.TypeDesc.func #[26,24,3] #[27] false),1,8,Go.Value.nilFunc,[]⟩),
 (30,⟨(Go.TypeDesc.func #[] #[4] false),1,8,Go.Value.nilFunc,[]⟩),
 (31,⟨(Go.TypeDesc.pointer 83),1,8,(Go.Value.pointer none),[]⟩),
 (33,⟨(Go.TypeDesc.func #[24,3] #[31,27] false),1,8,Go.Value.nilFunc,[]⟩),
 (34,⟨(Go.TypeDesc.pointer 88),1,8,(Go.Value.pointer none),[]⟩),
 (36,⟨(Go.TypeDesc.func #[3,26,3] #[34,27] false),1,8,Go.Value.nilFunc,[]⟩),
 (37,⟨(Go.TypeDesc.slice 3),1,24,(Go.Value.slice none 0 0),[]⟩),
 (38,⟨(Go.TypeDesc.struct #[]),5,40,(Go.Value.agg #[(Go.Value.int Go.IntKind.i64 0),(Go.Value.int Go.IntKind.i64 0),(Go.Value.int Go.IntKind.i64 0),(Go.Value.int Go.IntKind.i64 0),(Go.Value.int Go.IntKind.i64 0)]),[some (0,1,false),some (1,1,false),some (2,1,false),some (3,1,false),some (4,1,false)]⟩),
 (39,⟨(Go.TypeDesc.struct #[]),5,40,(Go.Value.agg #[(Go.Value.int Go.IntKind.i64 0),(Go.Value.int Go.IntKind.i64 0),(Go.Value.int Go.IntKind.i64 0),(Go.Value.int Go.IntKind.i64 0),(Go.Value.int Go.IntKind.i64 0)]),[some (0,1,false),some (1,1,false),some (2,1,false),some (3,1,false),some (4,1,false)]⟩),
 (40,⟨(Go.TypeDesc.struct #[]),2,16,(Go.Value.agg #[(Go.Value.int Go.IntKind.i64 0),(Go.Value.int Go.IntKind.i64 0)]),[some (0,1,false),some (1,1,false)]⟩),
 (41,⟨(Go.TypeDesc.struct #[]),2,16,(Go.Value.agg #[(Go.Value.int Go.IntKind.i64 0),(Go.Value.int Go.IntKind.i64 0)]),[some (0,1,false),some (1,1,false)]⟩),
 (42,⟨(Go.TypeDesc.struct #[]),6,64,(Go.Value.agg #[(Go.Value.int Go.IntKind.i64 0),(Go.Value.int Go.IntKind.i64 0),(Go.Value.int Go.IntKind.i64 0),(Go.Value.int Go.IntKind.i64 0),(Go.Value.int Go.IntKind.i64 0),(Go.Value.slice none 0 0)]),[some (0,1,false),some (1,1,false),some (2,1,false),some (3,2,true),some (5,1,false)]⟩),
 (43,⟨(Go.TypeDesc.struct #[]),6,64,(Go.Value.agg #[(Go.Value.int Go.IntKind.i64 0),(Go.Value.int Go.IntKind.i64 0),(Go.Value.int Go.IntKind.i64 0),(Go.Value.int Go.IntKind.i64 0),(Go.Value.int Go.IntKind.i64 0),(Go.Value.slice none 0 0)]),[some (0,1,false),some (1,1,false),some (2,1,false),some (3,2,true),some (5,1,false)]⟩),
 (45,⟨(Go.TypeDesc.func #[3,3,3] #[43,27] false),1,8,Go.Value.nilFunc,[]⟩),
 (46,⟨(Go.TypeDesc.func #[43] #[27] false),1,8,Go.Value.nilFunc,[]⟩),
 (47,⟨(Go.TypeDesc.struct #[]),3,24,(Go.Value.agg #[(Go.Value.int Go.IntKind.i64 0),(Go.Value.int Go.IntKind.i64 0),(Go.Value.int Go.IntKind.i64 0)]),[some (0,1,false),some (1,1,false),some (2,1,false)]⟩),
 (48,⟨(Go.TypeDesc.struct #[]),3,24,(Go.Value.agg #[(Go.Value.int Go.IntKind.i64 0),(Go.Value.int Go.IntKind.i64 0),(Go.Value.int Go.IntKind.i64 0)]),[some (0,1,false),some (1,1,false),some (2,1,false)]⟩),
 (50,⟨(Go.TypeDesc.func #[52] #[48,27] false),1,8,Go.Value.nilFunc,[]⟩),
 (51,⟨(Go.TypeDesc.struct #[]),4,32,(Go.Value.agg #[(Go.Value.int Go.IntKind.i64 0),(Go.Value.int Go.IntKind.i64 0),(Go.Value.int Go.IntKind.i64 0),(Go.Value.int Go.IntKind.i64 0)]),[some (0,1,false),some (1,1,false),some (2,1,false),some (3,1,false)]⟩),
 (52,⟨(Go.TypeDesc.struct #[]),4,32,(Go.Value.agg #[(Go.Value.int Go.IntKind.i64 0),(Go.Value.int Go.IntKind.i64 0),(Go.Value.int Go.IntKind.i64 0),(Go.Value.int Go.IntKind.i64 0)]),[some (0,1,false),some (1,1,false),some (2,1,false),some (3,1,false)]⟩),
 (54,⟨(Go.TypeDesc.func #[24,3] #[3,4] false),1,8,Go.Value.nilFunc,[]⟩),
 (55,⟨(Go.TypeDesc.func #[37,3] #[3] false),1,8,Go.Value.nilFunc,[]⟩),
 (57,⟨(Go.TypeDesc.func #[3] #[3,37,27] false),1,8,Go.Value.nilFunc,[]⟩),
 (58,⟨(Go.TypeDesc.func #[3,3,37,3] #[27] false),1,8,Go.Value.nilFunc,[]⟩),
 (59,⟨(Go.TypeDesc.func #[] #[3] false),1,8,Go.Value.nilFunc,[]⟩),
 (60,⟨(Go.TypeDesc.func #[23,24,3,3,25] #[4] false),1,8,Go.Value.nilFunc,[]⟩),
 (61,⟨(Go.TypeDesc.slice 110),1,24,(Go.Value.slice none 0 0),[]⟩),
 (63,⟨(Go.TypeDesc.func #[26,24,41] #[61,27] false),1,8,Go.Value.nilFunc,[]⟩),
 (64,⟨(Go.TypeDesc.slice 69),1,24,(Go.Value.slice none 0 0),[]⟩),
 (66,⟨(Go.TypeDesc.func #[37,61,37] #[64,27] false),1,8,Go.Value.nilFunc,[]⟩),
 (67,⟨(Go.TypeDesc.func #[37,64] #[4] false),1,8,Go.Value.nilFunc,[]⟩),
 (68,⟨(Go.TypeDesc.struct #[]),3,24,(Go.Value.agg #[(Go.Value.int Go.IntKind.i64 0),(Go.Value.int Go.IntKind.i64 0),(Go.Value.int Go.IntKind.i64 0)]),[some (0,1,false),some (1,1,false),some (2,1,false)]⟩),
 (69,⟨(Go.TypeDesc.struct #[]),3,24,(Go.Value.agg #[(Go.Value.int Go.IntKind.i64 0),(Go.Value.int Go.IntKind.i64 0),(Go.Value.int Go.IntKind.i64 0)]),[some (0,1,false),some (1,1,false),some (2,1,false)]⟩),
 (70,⟨(Go.TypeDesc.struct #[]),5,40,(Go.Value.agg #[(Go.Value.int Go.IntKind.i64 0),(Go.Value.int Go.IntKind.i64 0),(Go.Value.int Go.IntKind.i64 0),(Go.Value.int Go.IntKind.i64 0),(Go.Value.int Go.IntKind.i64 0)]),[some (0,1,false),some (1,1,false),some (2,1,false),some (3,1,false),some (4,1,false)]⟩),
 (71,⟨(Go.TypeDesc.struct #[]),5,40,(Go.Value.agg #[(Go.Value.int Go.IntKind.i64 0),(Go.Value.int Go.IntKind.i64 0),(Go.Value.int Go.IntKind.i64 0),(Go.Value.int Go.IntKind.i64 0),(Go.Value.int Go.IntKind.i64 0)]),[some (0,1,false),some (1,1,false),some (2,1,false),some (3,1,false),some (4,1,false)]⟩),
 (72,⟨(Go.TypeDesc.func #[26,24,37,37] #[4] false),1,8,Go.Value.nilFunc,[]⟩),
 (73,⟨(Go.TypeDesc.func #[9] #[27] false),1,8,Go.Value.nilFunc,[]⟩),
 (74,⟨(Go.TypeDesc.func #[3,71,3] #[27] false),1,8,Go.Value.nilFunc,[]⟩),
 (75,⟨(Go.TypeDesc.func #[71,3] #[4] false),1,8,Go.Value.nilFunc,[]⟩),
 (76,⟨(Go.TypeDesc.func #[24] #[24] false),1,8,Go.Value.nilFunc,[]⟩),
 (77,⟨(Go.TypeDesc.map 3 4),1,8,(Go.Value.map none),[]⟩),
 (78,⟨(Go.TypeDesc.slice 43),1,24,(Go.Value.slice none 0 0),[]⟩),
 (79,⟨(Go.TypeDesc.slice 4),1,24,(Go.Value.slice none 0 0),[]⟩),
 (80,⟨(Go.TypeDesc.struct #[]),2,48,(Go.Value.agg #[(Go.Value.slice none 0 0),(Go.Value.slice none 0 0)]),[some (0,1,false),some (1,1,false)]⟩),
 (81,⟨(Go.TypeDesc.struct #[]),2,48,(Go.Value.agg #[(Go.Value.slice none 0 0),(Go.Value.slice none 0 0)]),[some (0,1,false),some (1,1,false)]⟩),
 (82,⟨(Go.TypeDesc.struct #[]),6,96,(Go.Value.agg #[(Go.Value.slice none 0 0),(Go.Value.slice none 0 0),(Go.Value.slice none 0 0),(Go.Value.int Go.IntKind.i64 0),(Go.Value.int Go.IntKind.i64 0),(Go.Value.map none)]),[some (0,2,true),some (2,1,false),some (3,1,false),some (4,1,false),some (5,1,false)]⟩),
 (83,⟨(Go.TypeDesc.struct #[]),6,96,(Go.Value.agg #[(Go.Value.slice none 0 0),(Go.Value.slice none 0 0),(Go.Value.slice none 0 0),(Go.Value.int Go.IntKind.i64 0),(Go.Value.int Go.IntKind.i64 0),(Go.Value.map none)]),[some (0,2,true),some (2,1,false),some (3,1,false),some (4,1,false),some (5,1,false)]⟩),
 (84,⟨(Go.TypeDesc.func #[26] #[26] false),1,8,Go.Value.nilFunc,[]⟩),
 (85,⟨(Go.TypeDesc.map 3 96),1,8,(Go.Value.map none),[]⟩),
 (86,⟨(Go.TypeDesc.slice 105),1,24,(Go.Value.slice none 0 0),[]⟩),
 (87,⟨(Go.TypeDesc.struct #[]),6,80,(Go.Value.agg #[(Go.Value.int Go.IntKind.i64 0),(Go.Value.int Go.IntKind.i64 0),(Go.Value.slice none 0 0),(Go.Value.map none),(Go.Value.slice none 0 0),(Go.Value.int Go.IntKind.i64 0)]),[some (0,1,false),some (1,1,false),some (2,1,false),some (3,1,false),some (4,1,false),some (5,1,false)]⟩),
 (88,⟨(Go.TypeDesc.struct #[]),6,80,(Go.Value.agg #[(Go.Value.int Go.IntKind.i64 0),(Go.Value.int Go.IntKind.i64 0),(Go.Value.slice none 0 0),(Go.Value.map none),(Go.Value.slice none 0 0),(Go.Value.int Go.IntKind.i64 0)]),[some (0,1,false),some (1,1,false),some (2,1,false),some (3,1,false),some (4,1,false),some (5,1,false)]⟩),
 (89,⟨(Go.TypeDesc.func #[3] #[4] false),1,8,Go.Value.nilFunc,[]⟩),
 (90,⟨(Go.TypeDesc.func #[3] #[3,4] false),1,8,Go.Value.nilFunc,[]⟩),
 (92,⟨(Go.TypeDesc.func #[24,37,3] #[37,27] false),1,8,Go.Value.nilFunc,[]⟩),
 (93,⟨(Go.TypeDesc.func #[] #[37] false),1,8,Go.Value.nilFunc,[]⟩),
 (94,⟨(Go.TypeDesc.func #[3] #[3] false),1,8,Go.Value.nilFunc,[]⟩),
 (95,⟨(Go.TypeDesc.func #[43] #[43] false),1,8,Go.Value.nilFunc,[]⟩),
 (96,⟨(Go.TypeDesc.pointer 99),1,8,(Go.Value.pointer none),[]⟩),
 (97,⟨(Go.TypeDesc.func #[37] #[37] false),1,8,Go.Value.nilFunc,[]⟩),
 (98,⟨(Go.TypeDesc.struct #[]),7,88,(Go.Value.agg #[(Go.Value.int Go.IntKind.i64 0),(Go.Value.int Go.IntKind.i64 0),(Go.Value.int Go.IntKind.i64 0),(Go.Value.int Go.IntKind.i64 0),(Go.Value.int Go.IntKind.i64 0),(Go.Value.slice none 0 0),(Go.Value.slice none 0 0)]),[some (0,6,true),some (6,1,false)]⟩),
 (99,⟨(Go.TypeDesc.struct #[]),7,88,(Go.Value.agg #[(Go.Value.int Go.IntKind.i64 0),(Go.Value.int Go.IntKind.i64 0),(Go.Value.int Go.IntKind.i64 0),(Go.Value.int Go.IntKind.i64 0),(Go.Value.int Go.IntKind.i64 0),(Go.Value.slice none 0 0),(Go.Value.slice none 0 0)]),[some (0,6,true),some (6,1,false)]⟩),
 (100,⟨(Go.TypeDesc.func #[52,101,101,101] #[27] false),1,8,Go.Value.nilFunc,[]⟩),
 (101,⟨(Go.TypeDesc.func #[52] #[27] false),1,8,Go.Value.nilFunc,[]⟩),
 (102,⟨(Go.TypeDesc.func #[52] #[96] false),1,8,Go.Value.nilFunc,[]⟩),
 (103,⟨(Go.TypeDesc.func #[37,3] #[4] false),1,8,Go.Value.nilFunc,[]⟩),
 (104,⟨(Go.TypeDesc.struct #[]),5,40,(Go.Value.agg #[(Go.Value.int Go.IntKind.i64 0),(Go.Value.int Go.IntKind.i64 0),(Go.Value.int Go.IntKind.i64 0),(Go.Value.int Go.IntKind.i64 0),(Go.Value.bool false)]),[some (0,1,false),some (1,1,false),some (2,1,false),some (3,1,false),some (4,1,false)]⟩),
 (105,⟨(Go.TypeDesc.struct #[]),5,40,(Go.Value.agg #[(Go.Value.int Go.IntKind.i64 0),(Go.Value.int Go.IntKind.i64 0),(Go.Value.int Go.IntKind.i64 0),(Go.Value.int Go.IntKind.i64 0),(Go.Value.bool false)]),[some (0,1,false),some (1,1,false),some (2,1,false),some (3,1,false),some (4,1,false)]⟩),
 (106,⟨(Go.TypeDesc.func #[37] #[] false),1,8,Go.Value.nilFunc,[]⟩),
 (107,⟨(Go.TypeDesc.func #[43,37] #[27] false),1,8,Go.Value.nilFunc,[]⟩),
 (108,⟨(Go.TypeDesc.pointer 41),1,8,(Go.Value.pointer none),[]⟩),
 (109,⟨(Go.TypeDesc.struct #[]),3,24,(Go.Value.agg #[(Go.Value.int Go.IntKind.i64 0),(Go.Value.int Go.IntKind.i64 0),(Go.Value.int Go.IntKind.i64 0)]),[some (0,1,false),some (1,1,false),some (2,1,false)]⟩),
 (110,⟨(Go.TypeDesc.struct #[]),3,24,(Go.Value.agg #[(Go.Value.int Go.IntKind.i64 0),(Go.Value.int Go.IntKind.i64 0),(Go.Value.int Go.IntKind.i64 0)]),[some (0,1,false),some (1,1,false),some (2,1,false)]⟩),
 (111,⟨(Go.TypeDesc.map 114 3),1,8,(Go.Value.map none),[]⟩),
 (112,⟨(Go.TypeDesc.func #[23] #[4] false),1,8,Go.Value.nilFunc,[]⟩),
 (113,⟨(Go.TypeDesc.struct #[]),2,16,(Go.Value.agg #[(Go.Value.int Go.IntKind.i64 0),(Go.Value.int Go.IntKind.i64 0)]),[some (0,1,false),some (1,1,false)]⟩),
 (114,⟨(Go.TypeDesc.struct #[]),2,16,(Go.Value.agg #[(Go.Value.int Go.IntKind.i64 0),(Go.Value.int Go.IntKind.i64 0)]),[some (0,1,false),some (1,1,false)]⟩),
 (115,⟨(Go.TypeDesc.func #[61,116] #[] false),1,8,Go.Value.nilFunc,[]⟩),
 (116,⟨(Go.TypeDesc.func #[110,110] #[3] false),1,8,Go.Value.nilFunc,[]⟩),
 (117,⟨(Go.TypeDesc.func #[37,61,37] #[27] false),1,8,Go.Value.nilFunc,[]⟩),
 (118,⟨(Go.TypeDesc.map 3 61),1,8,(Go.Value.map none),[]⟩),
 (119,⟨(Go.TypeDesc.func #[3,37] #[37,27] false),1,8,Go.Value.nilFunc,[]⟩),
 (120,⟨(Go.TypeDesc.func #[64,121] #[] false),1,8,Go.Value.nilFunc,[]⟩),
 (121,⟨(Go.TypeDesc.func #[69,69] #[3] false),1,8,Go.Value.nilFunc,[]⟩),
 (122,⟨(Go.TypeDesc.func #[37,37] #[4] false),1,8,Go.Value.nilFunc,[]⟩),
 (123,⟨(Go.TypeDesc.func #[9,3] #[4] false),1,8,Go.Value.nilFunc,[]⟩),
 (125,⟨(Go.TypeDesc.func #[9] #[3,27] false),1,8,Go.Value.nilFunc,[]⟩),
 (126,⟨(Go.TypeDesc.int Go.IntKind.u64),1,8,(Go.Value.int Go.IntKind.u64 0),[]⟩),
 (127,⟨(Go.TypeDesc.func #[23,3,3] #[27] false),1,8,Go.Value.nilFunc,[]⟩),
 (128,⟨(Go.TypeDesc.func #[26,9] #[3,4] false),1,8,Go.Value.nilFunc,[]⟩),
 (129,⟨(Go.TypeDesc.pointer 81),1,8,(Go.Value.pointer none),[]⟩),
 (130,⟨(Go.TypeDesc.func #[132] #[37] false),1,8,Go.Value.nilFunc,[]⟩),
 (131,⟨(Go.TypeDesc.func #[89] #[] false),1,8,Go.Value.nilFunc,[]⟩),
 (132,⟨(Go.TypeDesc.func #[89] #[] false),1,8,Go.Value.nilFunc,[]⟩),
 (133,⟨(Go.TypeDesc.func #[77] #[132] false),1,8,Go.Value.nilFunc,[]⟩),
 (134,⟨(Go.TypeDesc.func #[23,3] #[4] false),1,8,Go.Value.nilFunc,[]⟩),
 (135,⟨(Go.TypeDesc.func #[86,136] #[4] false),1,8,Go.Value.nilFunc,[]⟩),
 (136,⟨(Go.TypeDesc.func #[105] #[4] false),1,8,Go.Value.nilFunc,[]⟩),
 (137,⟨(Go.TypeDesc.func #[43,3,3] #[4] false),1,8,Go.Value.nilFunc,[]⟩),
 (138,⟨(Go.TypeDesc.func #[37,3,3,3] #[] false),1,8,Go.Value.nilFunc,[]⟩),
 (139,⟨(Go.TypeDesc.func #[140] #[3] false),1,8,Go.Value.nilFunc,[]⟩),
 (140,⟨(Go.TypeDesc.int Go.IntKind.u64),1,8,(Go.Value.int Go.IntKind.u64 0),[]⟩),
 (141,⟨(Go.TypeDesc.func #[61,3,3,3,116] #[] false),1,8,Go.Value.nilFunc,[]⟩),
 (142,⟨(Go.TypeDesc.map 144 4),1,8,(Go.Value.map none),[]⟩),
 (143,⟨(Go.TypeDesc.struct #[]),2,16,(Go.Value.agg #[(Go.Value.int Go.IntKind.i64 0),(Go.Value.int Go.IntKind.i64 0)]),[some (0,1,false),some (1,1,false)]⟩),
 (144,⟨(Go.TypeDesc.struct #[]),2,16,(Go.Value.agg #[(Go.Value.int Go.IntKind.i64 0),(Go.Value.int Go.IntKind.i64 0)]),[some (0,1,false),some (1,1,false)]⟩),
 (145,⟨(Go.TypeDesc.func #[37] #[3,27] false),1,8,Go.Value.nilFunc,[]⟩),
 (147,⟨(Go.TypeDesc.func #[126,126] #[126,126] false),1,8,Go.Value.nilFunc,[]⟩),
 (148,⟨(Go.TypeDesc.func #[126,126,126] #[126,126] false),1,8,Go.Value.nilFunc,[]⟩),
 (149,⟨(Go.TypeDesc.func #[37,150] #[] false),1,8,Go.Value.nilFunc,[]⟩),
 (150,⟨(Go.TypeDesc.func #[3,3] #[3] false),1,8,Go.Value.nilFunc,[]⟩),
 (151,⟨(Go.TypeDesc.func #[64,3,3,3,121] #[] false),1,8,Go.Value.nilFunc,[]⟩),
 (152,⟨(Go.TypeDesc.func #[26,112] #[3] false),1,8,Go.Value.nilFunc,[]⟩),
 (153,⟨(Go.TypeDesc.func #[86,136] #[3] false),1,8,Go.Value.nilFunc,[]⟩),
 (154,⟨(Go.TypeDesc.func #[41] #[4] false),1,8,Go.Value.nilFunc,[]⟩),
 (155,⟨(Go.TypeDesc.func #[37,3,3] #[] false),1,8,Go.Value.nilFunc,[]⟩),
 (156,⟨(Go.TypeDesc.int Go.IntKind.i64),1,8,(Go.Value.int Go.IntKind.i64 0),[]⟩),
 (158,⟨(Go.TypeDesc.func #[37,3,3] #[3,156] false),1,8,Go.Value.nilFunc,[]⟩),
 (159,⟨(Go.TypeDesc.func #[37,3,3] #[4] false),1,8,Go.Value.nilFunc,[]⟩),
 (160,⟨(Go.TypeDesc.func #[3,3] #[4] false),1,8,Go.Value.nilFunc,[]⟩),
 (161,⟨(Go.TypeDesc.func #[37,3,3,3] #[3] false),1,8,Go.Value.nilFunc,[]⟩),
 (162,⟨(Go.TypeDesc.func #[37,3,3,3] #[3,4] false),1,8,Go.Value.nilFunc,[]⟩),
 (163,⟨(Go.TypeDesc.func #[164] #[3] false),1,8,Go.Value.nilFunc,[]⟩),
 (164,⟨(Go.TypeDesc.int Go.IntKind.u32),1,4,(Go.Value.int Go.IntKind.u32 0),[]⟩),
 (165,⟨(Go.TypeDesc.func #[126] #[3] false),1,8,Go.Value.nilFunc,[]⟩),
 (166,⟨(Go.TypeDesc.func #[61,3,3,116] #[] false),1,8,Go.Value.nilFunc,[]⟩),
 (167,⟨(Go.TypeDesc.func #[61,3,3,116] #[3,156] false),1,8,Go.Value.nilFunc,[]⟩),
 (168,⟨(Go.TypeDesc.func #[61,3,3,116] #[4] false),1,8,Go.Value.nilFunc,[]⟩),
 (169,⟨(Go.TypeDesc.func #[61,3,3,3,116] #[3] false),1,8,Go.Value.nilFunc,[]⟩),
 (170,⟨(Go.TypeDesc.func #[61,3,3,3,116] #[3,4] false),1,8,Go.Value.nilFunc,[]⟩),
 (173,⟨(Go.TypeDesc.func #[37,3,150] #[] false),1,8,Go.Value.nilFunc,[]⟩),
 (174,⟨(Go.TypeDesc.func #[64,3,3,121] #[] false),1,8,Go.Value.nilFunc,[]⟩),
 (175,⟨(Go.TypeDesc.func #[64,3,3,121] #[3,156] false),1,8,Go.Value.nilFunc,[]⟩),
 (176,⟨(Go.TypeDesc.func #[64,3,3,121] #[4] false),1,8,Go.Value.nilFunc,[]⟩),
 (177,⟨(Go.TypeDesc.func #[64,3,3,3,121] #[3] false),1,8,Go.Value.nilFunc,[]⟩),
 (178,⟨(Go.TypeDesc.func #[64,3,3,3,121] #[3,4] false),1,8,Go.Value.nilFunc,[]⟩),
 (179,⟨(Go.TypeDesc.func #[37,132] #[37] false),1,8,Go.Value.nilFunc,[]⟩),
 (180,⟨(Go.TypeDesc.int Go.IntKind.u64),1,8,(Go.Value.int Go.IntKind.u64 0),[]⟩),
 (181,⟨(Go.TypeDesc.func #[3] #[140] false),1,8,Go.Value.nilFunc,[]⟩),
 (182,⟨(Go.TypeDesc.func #[] #[126] false),1,8,Go.Value.nilFunc,[]⟩),
 (183,⟨(Go.TypeDesc.func #[37,3,184] #[3] false),1,8,Go.Value.nilFunc,[]⟩),
 (184,⟨(Go.TypeDesc.pointer 3),1,8,(Go.Value.pointer none),[]⟩),
 (185,⟨(Go.TypeDesc.func #[37,3,3,3,184] #[3] false),1,8,Go.Value.nilFunc,[]⟩),
 (186,⟨(Go.TypeDesc.func #[61,3,184,116] #[3] false),1,8,Go.Value.nilFunc,[]⟩),
 (187,⟨(Go.TypeDesc.func #[61,3,3,3,184,116] #[3] false),1,8,Go.Value.nilFunc,[]⟩),
 (188,⟨(Go.TypeDesc.func #[37] #[4] true),1,8,Go.Value.nilFunc,[]⟩),
 (189,⟨(Go.TypeDesc.func #[3] #[3,27] false),1,8,Go.Value.nilFunc,[]⟩),
 (190,⟨(Go.TypeDesc.func #[37,3,3,150] #[] false),1,8,Go.Value.nilFunc,[]⟩),
 (191,⟨(Go.TypeDesc.func #[37,3,3,3,150] #[] false),1,8,Go.Value.nilFunc,[]⟩),
 (192,⟨(Go.TypeDesc.func #[64,3,184,121] #[3] false),1,8,Go.Value.nilFunc,[]⟩),
 (193,⟨(Go.TypeDesc.func #[64,3,3,3,184,121] #[3] false),1,8,Go.Value.nilFunc,[]⟩),
 (194,⟨(Go.TypeDesc.array 2 3),2,16,(Go.Value.agg #[(Go.Value.int Go.IntKind.i64 0),(Go.Value.int Go.IntKind.i64 0)]),[]⟩),
 (195,⟨(Go.TypeDesc.pointer 180),1,8,(Go.Value.pointer none),[]⟩),
 (197,⟨(Go.TypeDesc.func #[37,3,3,184] #[3,3] false),1,8,Go.Value.nilFunc,[]⟩),
 (198,⟨(Go.TypeDesc.func #[61,3,3,184,116] #[3,3] false),1,8,Go.Value.nilFunc,[]⟩),
 (199,⟨(Go.TypeDesc.func #[64,3,3,184,121] #[3,3] false),1,8,Go.Value.nilFunc,[]⟩),
 (200,⟨(Go.TypeDesc.pointer 216),1,8,(Go.Value.pointer none),[]⟩),
 (201,⟨(Go.TypeDesc.func #[] #[9] false),1,8,Go.Value.nilFunc,[]⟩),
 (209,⟨(Go.TypeDesc.func #[217,217] #[4] false),1,8,Go.Value.nilFunc,[]⟩),
 (210,⟨(Go.TypeDesc.pointer 5),1,8,(Go.Value.pointer none),[]⟩),
 (215,⟨(Go.TypeDesc.struct #[]),1,16,(Go.Value.agg #[(Go.Value.string { data:= #[] })]),[some (0,1,false)]⟩),
 (216,⟨(Go.TypeDesc.struct #[]),1,16,(Go.Value.agg #[(Go.Value.string { data:= #[] })]),[some (0,1,false)]⟩)]
def Tt:TT:=Qb0 TtL
set_option maxRecDepth 100000 in
theorem QB:TOk Try.prog Tt:=by
 refine TOk.ofList fun p hp=> ?_
 simp only[TtL,List.mem_cons,List.not_mem_nil,or_false] at hp
 rcases hp with rfl | rfl | rfl | rfl | rfl | rfl | rfl | rfl | rfl | rfl | rfl | rfl | rfl | rfl | rfl | rfl | rfl | rfl | rfl | rfl | rfl | rfl | rfl | rfl | rfl | rfl | rfl | rfl | rfl | rfl | rfl | rfl | rfl | rfl | rfl | rfl | rfl | rfl | rfl | rfl | rfl | rfl | rfl | rfl | rfl | rfl | rfl | rfl | rfl | rfl | rfl | rfl | rfl | rfl | rfl | rfl | rfl | rfl | rfl | rfl | rfl | rfl | rfl | rfl | rfl | rfl | rfl | rfl | rfl | rfl | rfl | rfl | rfl | rfl | rfl | rfl | rfl | rfl | rfl | rfl | rfl | rfl | rfl | rfl | rfl | rfl | rfl | rfl | rfl | rfl | rfl | rfl | rfl | rfl | rfl | rfl | rfl | rfl | rfl | rfl | rfl | rfl | rfl | rfl | rfl | rfl | rfl | rfl | rfl | rfl | rfl | rfl | rfl | rfl | rfl | rfl | rfl | rfl | rfl | rfl | rfl | rfl | rfl | rfl | rfl | rfl | rfl | rfl | rfl | rfl | rfl | rfl | rfl | rfl | rfl | rfl | rfl | rfl | rfl | rfl | rfl | rfl | rfl | rfl | rfl | rfl | rfl | rfl | rfl | rfl | rfl | rfl | rfl | rfl | rfl | rfl | rfl | rfl | rfl | rfl | rfl | rfl | rfl | rfl | rfl | rfl | rfl | rfl | rfl | rfl | rfl | rfl | rfl | rfl | rfl | rfl | rfl<;>kernel_rfl
theorem QcR:Try.prog.follows .mixedOrders=true:=by kernel_rfl
end Go.Proofs.Ytfdjjdhnfaklbaa
namespace Go.Proofs.Ytfdjjdhnfaklbaa
open Go.RowKit
set_option linter.unusedSimpArgs false
set_option linter.unusedVariables false
theorem Addr.add_zero' (a:Addr):a.add 0=a:=by simp[Addr.add]
theorem Addr.add_add' (a:Addr) (i j:Nat):(a.add i).add j=a.add (i+j):=by
 unfold Addr.add
 by_cases hi:i=0<;>by_cases hj:j=0<;>simp[hi,hj,Nat.add_assoc]
def Qo (ts:List Nat) (fr:Fr):Fr:=match ts with
 | []=>[]
 | t::r=>match Zm fr t with
  | some v=>(t,v)::Qo r fr
  | none=>Qo r fr
theorem Vi (fr:Fr): ∀(ts:List Nat) (t:Nat) (v:Value),Zm (Qo ts fr) t=some v→Zm fr t=some v
 | [],t,v,h=>by cases h
 | s::r,t,v,h=>by
  simp only[Qo] at h
  cases hs:Zm fr s with
  | none=>rw[hs] at h;exact Vi fr r t v h
  | some u =>
   rw[hs] at h
   simp only[J3] at h
   by_cases he:s=t
   ·rw[if_pos he] at h;subst he;rw[←h];exact hs
   ·rw[if_neg he] at h;exact Vi fr r t v h
def QdR (fr' fr:Fr):Prop:=match fr' with
 | []=>True
 | p::r=>Zm fr p.1=some p.2∧QdR r fr
theorem QdR.look {fr:Fr}: ∀{fr':Fr},QdR fr' fr→ ∀t v,Go.Proofs.Ytfdjjdhnfaklbaa.Zm fr' t=some v→Go.Proofs.Ytfdjjdhnfaklbaa.Zm fr t=some v
 | [],_,t,v,h=>by cases h
 | p::r,hs,t,v,h=>by
  simp only[J3] at h
  by_cases he:p.1=t
  ·rw[if_pos he] at h;subst he;rw[←h];exact hs.1
  ·rw[if_neg he] at h;exact QdR.look hs.2 t v h
section
variable {P:Program} {T:TT} {N:NN} {K:Qs} {B:Nat→Qs} {R:Qs} {fr:Fr} {μ:Gh} {L:List Seg}
theorem WP.keep {c:Code} (ts:List Nat) (h:WP P N c K B R (Qo ts fr) μ L):WP P N c K B R fr μ L:=h.sub (Vi fr ts) (List.Sublist.refl _)
theorem WP.drop {c:Code} {s:Seg} (h:WP P N c K B R fr μ L):WP P N c K B R fr μ (s::L):=h.sub (fun _ _ h=>h) (by simp[List.flatten_cons])
end
abbrev w64 (n:Int):Int:=IntKind.i64.wrap n
theorem Qgm {n:Int} (h1: -9223372036854775808≤n) (h2:n≤9223372036854775807):IntKind.i64.wrap n=n:=by
 rw[IntKind.wrap_i64];omega
theorem QP.refl {L:List Seg}:QP L L:=fun _ h=>h
theorem QP.cons {L:List Seg} {s:Seg}:QP L (s::L):=fun c hc=>by simp only[List.flatten_cons,List.mem_append];exact .inr hc
theorem QP.nil {L:List Seg}:QP [] L:=fun c hc=>by cases hc
section
variable {μ:Gh} {L:List Seg}
theorem YV.seg (i j:Nat) {s:Seg} {g:Nat} {o:Obj} (hi:L[i]? =some s) (hj:s[j]? =some (g,o)):YV μ L g o :=
 .inr (List.mem_flatten.2 ⟨s,List.mem_of_getElem? hi,List.mem_of_getElem? hj⟩)
theorem Y7.seg (i j:Nat) {s:Seg} {g off:Nat} {cs:Array Value} {e:TypeId} {f:Nat×Nat} {v:Value} (hi:L[i]? =some s) (hj:s[j]? =some (g,.cells cs e f)) (hv:cs.toList[off]? =some v):Y7 μ L ⟨g,off,none⟩ v :=
 ⟨rfl,cs,e,f,YV.seg i j hi hj,by simpa using hv⟩
theorem Yn.seg (i j:Nat) {s:Seg} {g off:Nat} {cs:Array Value} {e:TypeId} {f:Nat×Nat} {vs:List Value} (hi:L[i]? =some s) (hj:s[j]? =some (g,.cells cs e f)) (hv:(cs.toList.drop off).take vs.length=vs):Yn μ L ⟨g,off,none⟩ vs:=by
 intro k v hk
 rw[ZG]
 refine Y7.seg i j hi hj ?_
 rw[←hv] at hk
 have hlt:k<vs.length:=by
  rcases Nat.lt_or_ge k vs.length with h | h
  ·exact h
  ·rw[List.getElem?_eq_none (by rw[List.length_take];omega)] at hk;cases hk
 rw[List.getElem?_take_of_lt hlt,List.getElem?_drop] at hk
 simpa using hk
theorem Yn.nil {a:Addr}:Yn μ L a []:=fun _ _ h=>by cases h
theorem Y7.of_cells {a:Addr} {vs:List Value} (h:Yn μ L a vs) (j:Nat) {v:Value} (hv:vs[j]? =some v):Y7 μ L (a.add j) v:=h j v hv
theorem WG.seg (i j:Nat) {s:Seg} {g off:Nat} {cs:Array Value} {e:TypeId} {vs:List Value} (hi:L[i]? =some s) (hj:s[j]? =some (g,.cells cs e (0,0))) (hl:off+vs.length≤cs.size) :
  WG L ⟨g,off,none⟩ vs (L.set i (s.set j (g,.cells (Zq cs.toList off vs).toArray e (0,0)))) :=
 ⟨i,j,s,cs,e,hi,hj,rfl,hl,rfl⟩
def Arr (μ:Gh) (A:Option Addr) (sz:Nat) (css:List (List Value)):Prop :=
 ∀i cs,css[i]? =some cs→cs.length=sz∧ ∃a,A=some a∧Yn μ [] (a.add (i*sz)) cs
theorem Arr.mono {μ':Gh} {A:Option Addr} {sz:Nat} {css:List (List Value)} (h:Arr μ A sz css) (hm:μ.le μ'):Arr μ' A sz css:=by
 intro i cs hi;obtain ⟨h1,a,h2,h3⟩:=h i cs hi;exact ⟨h1,a,h2,h3.mono hm (by simp)⟩
theorem Arr.nil {sz:Nat} {A:Option Addr}:Arr μ A sz []:=fun _ _ h=>by cases h
theorem Arr.at_ {A:Option Addr} {sz:Nat} {css:List (List Value)} (h:Arr μ A sz css) {i:Nat} {cs:List Value} (hi:css[i]? =some cs) :
  ∃a,A=some a∧Yn μ L (a.add (i*sz)) cs:=by
 obtain ⟨_,a,h2,h3⟩:=h i cs hi;exact ⟨a,h2,h3.mono (Gh.le.refl _) (by simp)⟩
end
end Go.Proofs.Ytfdjjdhnfaklbaa
namespace Go.Proofs.Ytfdjjdhnfaklbaa
open Go.RowKit
set_option linter.unusedSimpArgs false
set_option linter.unusedVariables false
section
variable {μ:Gh} {L:List Seg} {k:Gh→List Seg→Prop}
theorem Upd.done (h:k μ L):Upd μ L k:=fun _ hw=>⟨μ,L,Gh.le.refl _,hw,h⟩
theorem Upd.drop {s:Seg} (h:Upd μ L k):Upd μ (s::L) k:=fun w hw=>h w hw.drop
theorem Upd.sub {L':List Seg} (hs:L'.flatten.Sublist L.flatten) (h:Upd μ L' k):Upd μ L k:=fun w hw=>h w (hw.sub hs)
theorem Upd.perm {L':List Seg} (hs:L.flatten.Perm L'.flatten) (h:Upd μ L' k):Upd μ L k:=fun w hw=>h w (hw.perm hs)
theorem Upd.swap {s t:Seg} (h:Upd μ (t::s::L) k):Upd μ (s::t::L) k :=
 h.perm (by simp only[List.flatten_cons,←List.append_assoc];exact List.perm_append_comm.append_right _)
theorem Upd.frz {s:Seg} (h:μ.le (μ.add s)→Upd (μ.add s) L k):Upd μ (s::L) k:=fun w hw=>by
 obtain ⟨hm,hi⟩:=hw.freeze;obtain ⟨μ',L',h1,h2,h3⟩:=h hm w hi;exact ⟨μ',L',hm.trans h1,h2,h3⟩
theorem Upd.mono {k':Gh→List Seg→Prop} (h:Upd μ L k) (hk: ∀μ' L',μ.le μ'→k μ' L'→k' μ' L'):Upd μ L k':=fun w hw=>by
 obtain ⟨μ',L',h1,h2,h3⟩:=h w hw;exact ⟨μ',L',h1,h2,hk _ _ h1 h3⟩
theorem Upd.know (h:(∃w,Inv w μ L)→Upd μ L k):Upd μ L k:=fun w hw=>h ⟨w,hw⟩ w hw
theorem WP.upd {P:Program} {N:NN} {c:Code} {K:Qs} {B:Nat→Qs} {R:Qs} {fr:Fr} (h:Upd μ L fun μ' L'=>WP P N c K B R fr μ' L'):WP P N c K B R fr μ L:=fun a w ha hw=>by
 obtain ⟨μ',L',h1,h2,h3⟩:=h w hw;exact Code.wpIn_mono (JI h1 (fun _ _ _ _ h=>h) (fun _ _ _ _ _ h=>h) (fun _ _ _ _ h=>h)) (h3 a w ha h2)
theorem Q5.upd {P:Program} {s:Sem Value} {R:Value→Gh→List Seg→Prop} (h:Q5 P s μ L fun v μ' L'=>Upd μ' L' (R v)):Q5 P s μ L R:=fun w hw=>by
 obtain ⟨v,w',μ',L',h1,h2,h3,h4⟩:=h w hw;obtain ⟨μ2,L2,k1,k2,k3⟩:=h4 w' h3;exact ⟨v,w',μ2,L2,h1,h2.trans k1,k2,k3⟩
theorem Q5.pre {P:Program} {s:Sem Value} {R:Value→Gh→List Seg→Prop} (h:Upd μ L fun μ' L'=>Q5 P s μ' L' R):Q5 P s μ L R:=fun w hw=>by
 obtain ⟨μ',L',h1,h2,h3⟩:=h w hw;obtain ⟨v,w',μ2,L2,k1,k2,k3,k4⟩:=h3 w h2;exact ⟨v,w',μ2,L2,k1,h1.trans k2,k3,k4⟩
theorem Fn.upd {P:Program} {f:FuncId} {args:List Value} {R:Value→Gh→List Seg→Prop} (h:Fn P f args μ L fun v μ' L'=>Upd μ' L' (R v)):Fn P f args μ L R:=by
 rcases h with ⟨h1,h2⟩ | ⟨fn,e,h1,h2,h3,h4,h5,h6⟩
 ·exact .inl ⟨h1,fun w hw=>(h2 w hw).mono fun _ w' ⟨v,μ',L',he,hm,hi,hR⟩=>by
   obtain ⟨μ2,L2,h1,h2,h3⟩:=hR w' hi;exact ⟨v,μ2,L2,he,hm.trans h1,h2,h3⟩⟩
 ·exact .inr ⟨fn,e,h1,h2,h3,h4,h5,h6.upd⟩
theorem Yq {L:List Seg} {i:Nat} {s:Seg} (hi:L[i]? =some s):L.flatten.Perm (s::L.set i []).flatten:=by
 induction L generalizing i with
 | nil=>simp at hi
 | cons t L ih =>
  cases i with
  | zero=>simp at hi;subst hi;simp
  | succ i =>
   simp at hi
   have:=ih hi
   simp only[List.flatten_cons,List.set_cons_succ] at this ⊢
   refine (this.append_left t).trans ?_
   rw[←List.append_assoc,←List.append_assoc]
   exact List.perm_append_comm.append_right _
theorem Upd.frzAt (i:Nat) {s:Seg} (hi:L[i]? =some s) (h:μ.le (μ.add s)→Upd (μ.add s) (L.set i []) k):Upd μ L k :=
 Upd.perm (Yq hi) (Upd.frz h)
end
def Y0 (e:TypeId) (sz:Nat) (v:Value) (css:List (List Value)) (ch:Seg):Prop :=
 (∀cs∈css,cs.length=sz) ∧
 (
  (v= .slice none 0 0∧css=[]∧ch=[]) ∨
  ∃g cap cur,v= .slice (some ⟨g,0,none⟩) css.length cap∧ch=[(g,.cells cur e (0,0))]∧css.length≤cap∧cap≤maxLen∧cur.size=cap*sz∧cur.toList.take (css.length*sz)=css.flatten)
theorem Y0.nil {e:TypeId} {sz:Nat}:Y0 e sz (.slice none 0 0) [] []:=⟨by simp,.inl ⟨rfl,rfl,rfl⟩⟩
theorem Ys {sz:Nat}: ∀{css:List (List Value)},(∀cs∈css,cs.length=sz)→css.flatten.length=css.length*sz
 | [],_=>by simp
 | c::r,h=>by
  rw[List.flatten_cons,List.length_append,h c (by simp),Ys (fun c hc=>h c (by simp[hc])),List.length_cons,Nat.succ_mul];omega
theorem QaC {sz:Nat}: ∀{css:List (List Value)} {i j:Nat} {cs:List Value} {v:Value},(∀cs∈css,cs.length=sz)→css[i]? =some cs→cs[j]? =some v→css.flatten[i*sz+j]? =some v
 | [],i,j,cs,v,_,hi,_=>by simp at hi
 | c::r,0,j,cs,v,h,hi,hj=>by
  simp at hi;subst hi
  have hlt:j<c.length:=by
   rcases Nat.lt_or_ge j c.length with h | h
   ·exact h
   ·rw[List.getElem?_eq_none h] at hj;cases hj
  rw[List.flatten_cons,Nat.zero_mul,Nat.zero_add,List.getElem?_append_left hlt];exact hj
 | c::r,i+1,j,cs,v,h,hi,hj=>by
  have hc:=h c (by simp)
  rw[List.flatten_cons,List.getElem?_append_right (by rw[hc,Nat.succ_mul];omega)]
  have:(i+1)*sz+j-c.length=i*sz+j:=by rw[hc,Nat.succ_mul];omega
  rw[this]
  exact QaC (fun c hc=>h c (by simp[hc])) (by simpa using hi) hj
theorem Y0.form {e:TypeId} {sz:Nat} {v:Value} {css:List (List Value)} {ch:Seg} (h:Y0 e sz v css ch): ∃A cap,v= .slice A css.length cap∧css.length≤cap∧cap≤maxLen:=by
 rcases h.2 with ⟨rfl,rfl,rfl⟩ | ⟨g,cap,cur,rfl,_,h1,h2,_⟩
 ·exact ⟨none,0,rfl,by simp,by simp[maxLen]⟩
 ·exact ⟨_,cap,rfl,h1,h2⟩
theorem Y0.arr {e:TypeId} {sz:Nat} {A:Option Addr} {n cap:Nat} {css:List (List Value)} {ch:Seg} (h:Y0 e sz (.slice A n cap) css ch) {μ:Gh} (hm: ∀c∈ch,μ.mem c.1=some c.2):Arr μ A sz css:=by
 intro i cs hi;have hcs:=h.1 cs (List.mem_of_getElem? hi);refine ⟨hcs,?_⟩;rcases h.2 with ⟨_,rfl,_⟩ | ⟨g,cap',cur,hv,rfl,h1,h2,h3,h4⟩
 ·cases hi
 ·injection hv with hv _ _
  refine ⟨⟨g,0,none⟩,hv,fun j v hj=> ?_⟩
  rw[ZG,ZG]
  refine ⟨rfl,cur,e,(0,0),.inl (hm (g,.cells cur e (0,0)) (by simp)),?_⟩;have hf:=QaC h.1 hi hj
  rw[←h4,List.getElem?_take] at hf
  split at hf
  ·simpa using hf
  ·cases hf
theorem Qge {w:World} {μ:Gh} {L:List Seg} (h:Inv w μ L) {i:Nat} {s:Seg} (hi:L[i]? =some s):(s.map (·.1)).Nodup:=by
 have:=(h.perm (Yq hi)).nd
 simp only[List.flatten_cons,List.map_append,List.nodup_append] at this
 exact this.1
theorem Upd.arr {e:TypeId} {sz:Nat} {v:Value} {css:List (List Value)} {ch:Seg} {μ:Gh} {L:List Seg} {k:Gh→List Seg→Prop} (i:Nat) (hi:L[i]? =some ch) (hown:Y0 e sz v css ch)
  (h: ∀A cap μ',v= .slice A css.length cap→cap≤maxLen→css.length≤cap→μ.le μ'→Arr μ' A sz css→Upd μ' (L.set i []) k):Upd μ L k:=by
 refine Upd.know fun ⟨w,hw⟩=> ?_;have hn:=Qge hw hi;refine Upd.frzAt i hi fun hm=> ?_;obtain ⟨A,cap,rfl,h1,h2⟩:=hown.form;exact h A cap _ rfl h2 h1 hm (hown.arr fun c hc=>Gh.add_at hc hn)
section
variable {P:Program} {T:TT} {μ:Gh} {L:List Seg} {k:Value→Gh→List Seg→Prop}
theorem Y0.row {w:World} {e:TypeId} {sz:Nat} {v:Value} {css:List (List Value)} {ch:Seg} (h:Y0 e sz v css ch) (hw: ∀c∈ch,w.heap[c.1]? =some c.2) :
  w.ownsRow 0 e sz v css.length css.flatten:=by
 refine ⟨Ys h.1,?_⟩;rcases h.2 with ⟨rfl,rfl,rfl⟩ | ⟨g,cap,cur,rfl,rfl,h1,h2,h3,h4⟩
 ·exact .inl ⟨rfl,rfl⟩
 ·exact .inr ⟨g,cap,cur,rfl,Nat.zero_le _,hw (g,.cells cur e (0,0)) (by simp),h1,h2,h3,h4⟩
theorem Qc9 (hT:TOk P T) {t ty e:TypeId} {it ie:TyI} (ht:T t=some it) (hu:it.u= .slice e) (he:T e=some ie) (hz:ie.zero.cells.size=ie.size) (hsz:0<ie.size)
  {v:Value} {css:List (List Value)} {ch:Seg} (i:Nat) (hi:L[i]? =some ch) (hown:Y0 e ie.size v css ch)
  {A:Option Addr} {m c:Nat} {news:List (List Value)} (hm:news.length=m) (hn: ∀cs∈news,cs.length=ie.size) (h1: ∀cs∈news,∀u∈cs,u.oneCell'=true)
  (hr:0<m→ ∃a,A=some a∧Yn μ L a news.flatten) (h63:css.length+m≤maxLen) (hb:(css.length+m)*ie.bytes≤140737488355328)
  (hk: ∀v' ch',Y0 e ie.size v' (css++news) ch'→(css++news=[]→v'=v∨A≠none)→k v' μ (L.set i ch')) :
  Q5 P (Builtin.append_ #[t,t] ty #[v,.slice A m c]) μ L k:=by
 intro w hw;have hself:L.set i ch=L:=by
  apply List.ext_getElem?;intro j
  by_cases hj:i=j
  ·subst hj;have hlt:i<L.length:=by
    rcases Nat.lt_or_ge i L.length with h | h
    ·exact h
    ·rw[List.getElem?_eq_none h] at hi;cases hi
   have he1:L[i]=ch:=by rw[List.getElem?_eq_getElem hlt] at hi;injection hi
   simp[List.getElem?_set,hlt,he1]
  ·simp[List.getElem?_set,hj]
 have hperm:=Yq hi;obtain ⟨j,hj1,hj2,hj3,hj4⟩:=Qd9 hT he;have hut:=Qdf hT ht hu (by simp);have hchw: ∀c∈ch,w.heap[c.1]? =some c.2:=fun c hc=>hw.own c (List.mem_flatten.2 ⟨ch,List.mem_of_getElem? hi,hc⟩);have hrow:=hown.row hchw;rcases Nat.eq_zero_or_pos m with h0 | h0
 ·
  subst h0;have hne:news=[]:=List.eq_nil_of_length_eq_zero hm;subst hne;have hrun:(Builtin.append_ #[t,t] ty #[v,.slice A 0 c]).run P w= .ok v w:=by
   obtain ⟨A',cap,rfl,hc1,hc2⟩:=hown.form;cases A<;>cases A'<;>simp[Builtin.append_,run_underlying hut,sizeOf,typeInfo,hj1,Builtin.lenOf,hc1,Builtin.firstCells,loadCells,loadCellsFrom,storeCells]
  refine ⟨v,w,μ,L,hrun,Gh.le.refl _,hw,?_⟩;have:=hk v ch (by simpa using hown) (fun _=> .inl rfl)
  rwa [hself] at this
 ·obtain ⟨
      a,rfl,hcs⟩:=hr h0
  obtain ⟨v',w',hrun,h2,h3,_,h5⟩:=run_append_own_at (P:=P) w 0 t ty e j ie.zero ie.size ie.bytes hut hj1 hj4 hj3 hj2 hz hsz v css.length css.flatten hrow a m c news.flatten (by rw[Ys hn,hm])
   (fun j u hu=>hw.holds.cell (hcs j u hu)) (fun u hu=>by obtain ⟨cs,h6,h7⟩:=List.mem_flatten.1 hu;exact h1 cs h6 u h7) h63 hb (Nat.zero_le _)
  have hlen:css.length+m=(css++news).length:=by rw[List.length_append,hm]
  rw[hlen,←List.flatten_append] at h2
  have hnn:(css++news).length≠0:=by rw[←hlen];omega
  rcases h2.2 with ⟨_,hz0⟩ | ⟨g,cap,cur,rfl,_,hg,hc1,hc2,hc3,hc4⟩
  ·exact absurd hz0 hnn
  ·have hgo:g=w.heap.size∨ ∃o,ch=[(g,o)]:=by
    simp only[Value.ownBlock] at h5
    rcases h5 with h5 | h5
    ·rcases hown.2 with ⟨rfl,_,_⟩ | ⟨g',cap',cur',rfl,rfl,_⟩
     ·simp at h5
     ·simp at h5;subst h5;exact .inr ⟨_,rfl⟩
    ·injection h5 with h5;exact .inl h5
   refine ⟨_,w',μ,L.set i [(g,.cells cur e (0,0))],hrun,Gh.le.refl _,?_,hk _ _ ⟨?_,.inr ⟨g,cap,cur,rfl,rfl,hc1,hc2,hc3,hc4⟩⟩ (fun h=>absurd (by rw[h];rfl) hnn)⟩
   ·
    have hw1:Inv w μ (ch::L.set i []):=hw.perm hperm;have hsub:(L.set i []).flatten.Sublist (ch::L.set i []).flatten:=by simp
    have hown': ∀c∈(L.set i []).flatten,c.1≠g∧c.1<w.heap.size∧some c.1≠v.ownBlock:=by
     intro c hc;have hlt:=QO (hw1.own c (hsub.subset hc));have hnd:=hw1.nd
     simp only[List.flatten_cons,List.map_append,List.nodup_append] at hnd
     have hnch: ∀d∈ch,d.1≠c.1:=fun d hd=>hnd.2.2 d.1 (List.mem_map.2 ⟨d,hd,rfl⟩) c.1 (List.mem_map.2 ⟨c,hc,rfl⟩);refine ⟨?_,hlt,?_⟩
     ·rcases hgo with rfl | ⟨o,rfl⟩
      ·omega
      ·exact fun e=>hnch (g,o) (by simp) e.symm
     ·rcases hown.2 with ⟨rfl,_,_⟩ | ⟨g',cap',cur',rfl,rfl,_⟩
      ·simp[Value.ownBlock]
      ·simp only[Value.ownBlock,ne_eq,Option.some.injEq]
       exact fun q=>hnch (g',.cells cur' e (0,0)) (by simp) q.symm
    have hkeep: ∀c∈(L.set i []).flatten,w'.heap[c.1]? =some c.2:=fun c hc=>by
     obtain ⟨_,h6,h7⟩:=hown' c hc
     rw[h3.block c.1 h6 h7]
     exact hw1.own c (hsub.subset hc)
    have hgm:μ.mem g=none:=by
     rcases hgo with rfl | ⟨o,rfl⟩
     ·cases hx:μ.mem w.heap.size with
      | none=>rfl
      | some x=>have:=QO (hw.mem _ _ hx);omega
     ·exact hw1.sep (g,o) (by simp)
    have hfin:Inv w' μ ([(g,.cells cur e (0,0))]::L.set i []):=by
     refine ⟨h3.os.trans hw.os,h3.output.trans hw.out,h3.tape.trans hw.tape,fun b o hb=> ?_,fun c hc=> ?_,fun c hc=> ?_,?_⟩
     ·have h6:=hw.mem b o hb
      rw[h3.block b (QO h6) ?_];exact h6
      intro he1;rcases hown.2 with ⟨rfl,_,_⟩ | ⟨g',cap',cur',rfl,rfl,_⟩
      ·simp[Value.ownBlock] at he1
      ·simp only[Value.ownBlock,Option.some.injEq] at he1
       subst he1;have:=hw1.sep (b,.cells cur' e (0,0)) (by simp)
       rw[hb] at this;cases this
     ·simp only[List.flatten_cons,List.singleton_append,List.mem_cons] at hc
      rcases hc with rfl | hc
      ·exact hg
      ·exact hkeep c hc
     ·simp only[List.flatten_cons,List.singleton_append,List.mem_cons] at hc
      rcases hc with rfl | hc
      ·exact hgm
      ·exact hw1.sep c (hsub.subset hc)
     ·simp only[List.flatten_cons,List.singleton_append,List.map_cons,List.nodup_cons]
      refine ⟨fun hmem=> ?_,?_⟩
      ·obtain ⟨c,hc,he⟩:=List.mem_map.1 hmem;exact (hown' c hc).1 he
      ·exact (hsub.map _).nodup hw1.nd
    refine hfin.perm ?_;have hi':(L.set i [(g,Obj.cells cur e (0,0))])[i]? =some [(g,.cells cur e (0,0))]:=by
     have:i<L.length:=by
      rcases Nat.lt_or_ge i L.length with h | h
      ·exact h
      ·rw[List.getElem?_eq_none h] at hi;cases hi
     simp[this]
    have:=Yq hi'
    rw[List.set_set] at this
    exact this.symm
   ·intro cs hcs';rcases List.mem_append.1 hcs' with h | h
    ·exact hown.1 cs h
    ·exact hn cs h
end
end Go.Proofs.Ytfdjjdhnfaklbaa
namespace Go.Proofs.Ytfdjjdhnfaklbaa
open Go.RowKit
set_option linter.unusedSimpArgs false
set_option linter.unusedVariables false
structure Jy (kd:IntKind) (es:Array MapEntry) (c:Nat) (m:List (Int×Value)):Prop where
 ps:es.toList.map (fun e=>(e.key,e.val))=m.map (fun p=>(Value.int kd p.1,p.2))
 nd:(m.map (·.1)).Nodup
 born:(es.toList.map (·.born)).Nodup
 lt: ∀e∈es.toList,e.born<c
def JS (n:Int):List (Int×Value)→Option Value
 | []=>none
 | p::r=>if p.1=n then some p.2 else JS n r
def V9 (n:Int) (v:Value):List (Int×Value)→List (Int×Value)
 | []=>[(n,v)]
 | p::r=>if p.1=n then (n,v)::r else p::V9 n v r
theorem Jy.nil {kd:IntKind}:Jy kd #[] 0 []:=⟨rfl,List.nodup_nil,List.nodup_nil,by simp⟩
theorem Qds {kd:IntKind}: ∀{es:List MapEntry} {m:List (Int×Value)},es.map (fun e=>(e.key,e.val))=m.map (fun p=>(Value.int kd p.1,p.2))→JE kd es
 | [],_,_=>by intro e he;cases he
 | e::es,[],h=>by simp at h
 | e::es,p::m,h=>by
  simp only[List.map_cons,List.cons.injEq,Prod.mk.injEq] at h
  intro x hx;rcases List.mem_cons.1 hx with rfl | hx
  ·exact ⟨_,h.1.1⟩
  ·exact Qds h.2 x hx
theorem Qcs {kd:IntKind} (n:Int): ∀{es:List MapEntry} {m:List (Int×Value)},es.map (fun e=>(e.key,e.val))=m.map (fun p=>(Value.int kd p.1,p.2))→JR n es=JS n m
 | [],[],_=>rfl
 | [],p::m,h=>by simp at h
 | e::es,[],h=>by simp at h
 | e::es,p::m,h=>by
  simp only[List.map_cons,List.cons.injEq,Prod.mk.injEq] at h
  simp only[JR,h.1.1,JS,h.1.2,Qcs n h.2]
theorem Jy.keys {kd:IntKind} {es:Array MapEntry} {c:Nat} {m:List (Int×Value)} (h:Jy kd es c m):JE kd es.toList:=Qds h.ps
theorem Jy.find {kd:IntKind} {es:Array MapEntry} {c:Nat} {m:List (Int×Value)} (h:Jy kd es c m) (n:Int):JR n es.toList=JS n m:=Qcs n h.ps
theorem Jy.size {kd:IntKind} {es:Array MapEntry} {c:Nat} {m:List (Int×Value)} (h:Jy kd es c m):es.size=m.length:=by
 have:=congrArg List.length h.ps
 simpa using this
theorem QaB (kd:IntKind) (n:Int): ∀(es:List MapEntry) (i:Nat) {m:List (Int×Value)},es.map (fun e=>(e.key,e.val))=m.map (fun p=>(Value.int kd p.1,p.2)) →
  (Instr.findNow (.int kd) (.int kd n) es i=some none∧JS n m=none) ∨
  ∃j v,Instr.findNow (.int kd) (.int kd n) es i=some (some (i+j,v))∧JS n m=some v∧j<es.length∧(es[j]?).map (·.key)=some (.int kd n) ∧
   ∀u,V9 n u m=m.set j (n,u)
 | [],i,[],_=> .inl ⟨rfl,rfl⟩
 | [],i,p::m,h=>by simp at h
 | e::es,i,[],h=>by simp at h
 | e::es,i,p::m,h=>by
  simp only[List.map_cons,List.cons.injEq,Prod.mk.injEq] at h
  obtain ⟨⟨h1,h2⟩,h3⟩:=h
  by_cases hn:p.1=n
  ·refine .inr ⟨0,e.val,?_,by simp[JS,hn,h2],by simp,by simp[h1,hn],fun u=>by simp[V9,hn]⟩
   simp[Instr.findNow,Instr.sameNow,h1,hn]
  ·have hne:(n==p.1)=false:=by simpa using fun e=>hn e.symm
   rcases QaB kd n es (i+1) h3 with ⟨h4,h5⟩ | ⟨j,v,h4,h5,h6,h7,h8⟩
   ·exact .inl ⟨by simp[Instr.findNow,Instr.sameNow,h1,hne,h4],by simp[JS,hn,h5]⟩
   ·refine .inr ⟨j+1,v,?_,by simp[JS,hn,h5],by simp;omega,by simpa using h7,fun u=>by simp[V9,hn,h8 u]⟩
    simp only[Instr.findNow,Instr.sameNow,h1,if_true,hne,h4]
    congr 3
    omega
theorem QcE (n:Int) (u:Value): ∀{m:List (Int×Value)},JS n m=none→V9 n u m=m++[(n,u)]∧n∉m.map (·.1)
 | [],_=>⟨rfl,by simp⟩
 | p::m,h=>by
  simp only[JS] at h
  by_cases hn:p.1=n
  ·rw[if_pos hn] at h;cases h
  ·rw[if_neg hn] at h
   obtain ⟨h1,h2⟩:=QcE n u h;refine ⟨by simp[V9,hn,h1],?_⟩
   simp only[List.map_cons,List.mem_cons,not_or]
   exact ⟨fun e=>hn e.symm,h2⟩
theorem Jy.push {kd:IntKind} {es:Array MapEntry} {c:Nat} {m:List (Int×Value)} (h:Jy kd es c m) {n:Int} {v:Value} (hn:JS n m=none) :
  Jy kd (es.push { key:= .int kd n,val:=v,born:=c }) (c+1) (V9 n v m):=by
 obtain ⟨h1,h2⟩:=QcE n v hn;refine ⟨by rw[h1];simp[h.ps],by rw[h1];simp[List.nodup_append];exact ⟨h.nd,fun a b hb e=>h2 (by subst e;simp;exact ⟨b,hb⟩)⟩,?_,?_⟩
 ·simp[List.nodup_append]
  refine ⟨h.born,fun e he hb=> ?_⟩;have:=h.lt e (by simpa using he)
  omega
 ·intro e he
  simp at he
  rcases he with he | rfl
  ·have:=h.lt e (by simpa using he);omega
  ·simp
theorem Wy {α β:Type} (f:α→β) (g:α→α) (l:List α) (j:Nat) (h: ∀x,l[j]? =some x→f (g x)=f x):(l.modify j g).map f=l.map f:=by
 apply List.ext_getElem?;intro i
 simp only[List.getElem?_map,List.getElem?_modify]
 by_cases hij:j=i
 ·subst hij;cases hx:l[j]? with
  | none=>rfl
  | some x=>simp[h x hx]
 ·simp[hij]
theorem WM {α β:Type} (f:α→β) (g:α→α) (l:List α) (j:Nat) (y:β) (h: ∀x,l[j]? =some x→f (g x)=y):(l.modify j g).map f=(l.map f).set j y:=by
 apply List.ext_getElem?;intro i
 simp only[List.getElem?_map,List.getElem?_modify,List.getElem?_set,List.length_map]
 by_cases hij:j=i
 ·subst hij;cases hx:l[j]? with
  | none =>
   have hge:l.length≤j:=by
    rcases Nat.lt_or_ge j l.length with h | h
    ·rw[List.getElem?_eq_getElem h] at hx;cases hx
    ·exact h
   simp;omega
  | some x =>
   have hlt:j<l.length:=by
    rcases Nat.lt_or_ge j l.length with h | h
    ·exact h
    ·rw[List.getElem?_eq_none h] at hx;cases hx
   simp[hlt,h x hx]
 ·simp[hij]
theorem Jy.put {kd:IntKind} {es:Array MapEntry} {c:Nat} {m:List (Int×Value)} (h:Jy kd es c m) {n:Int} {v:Value} {j:Nat}
  (hj:(es.toList[j]?).map (·.key)=some (.int kd n)) (hs:V9 n v m=m.set j (n,v)) (hjl:j<es.size) :
  Jy kd (es.modify j fun e=>{ e with key:= .int kd n,val:=v }) c (V9 n v m):=by
 have hl:=h.size;refine ⟨?_,?_,?_,?_⟩
 ·have h1:=WM (fun e:MapEntry=>(e.key,e.val)) (fun e=>{ e with key:= .int kd n,val:=v }) es.toList j (Value.int kd n,v) (fun x _=>rfl)
  rw[Array.toList_modify,h1,h.ps,hs,List.map_set]
 ·have hk:(m.set j (n,v)).map (·.1)=m.map (·.1):=by
   apply List.ext_getElem?;intro i
   simp only[List.getElem?_map,List.getElem?_set]
   by_cases hij:j=i
   ·subst hij;have h1:=congrArg (fun l=>l[j]?) h.ps
    simp only[List.getElem?_map] at h1
    have hjm:j<m.length:=by omega
    cases hx:es.toList[j]? with
    | none=>rw[hx] at hj;cases hj
    | some x =>
     rw[hx] at hj h1
     simp only[Option.map_some,Option.some.injEq] at hj
     rw[List.getElem?_eq_getElem hjm] at h1 ⊢
     simp only[Option.map_some,Option.some.injEq,Prod.mk.injEq,hj,Value.int.injEq,true_and] at h1
     simp[hjm,h1.1]
   ·simp[hij]
  rw[hs,hk];exact h.nd
 ·have h1:=Wy (fun e:MapEntry=>e.born) (fun e=>{ e with key:= .int kd n,val:=v }) es.toList j (fun x _=>rfl)
  rw[Array.toList_modify,h1];exact h.born
 ·intro e he
  rw[Array.toList_modify] at he
  obtain ⟨i,hi⟩:=List.getElem?_of_mem he
  rw[List.getElem?_modify] at hi
  cases hx:es.toList[i]? with
  | none=>rw[hx] at hi;cases hi
  | some x =>
   rw[hx] at hi
   have:=h.lt x (List.mem_of_getElem? hx)
   by_cases hji:j=i
   ·simp[hji] at hi;subst hi;exact this
   ·simp[hji] at hi;subst hi;exact this
section
variable {P:Program} {T:TT} {μ:Gh} {L:List Seg}
theorem Inv.updObj {w:World} {i j:Nat} {s:Seg} {g:Nat} {o o':Obj} (h:Inv w μ L) (hi:L[i]? =some s) (hj:s[j]? =some (g,o)) :
  Inv { w with heap:=w.heap.setIfInBounds g o' } μ (L.set i (s.set j (g,o'))):=by
 have hb:=h.own _ (List.mem_flatten.2 ⟨s,List.mem_of_getElem? hi,List.mem_of_getElem? hj⟩);have hlt:=QO hb
 simp only at hlt
 refine h.upd (w':={ w with heap:=w.heap.setIfInBounds g o' }) hi hj rfl rfl rfl ?_ fun k hk=> ?_
 ·simp[hlt]
 ·simp[Array.getElem?_setIfInBounds_ne (Ne.symm hk)]
theorem Wt (w:World) (r:Nat) (o o':Obj) (hc: ∀a b c,o≠ .cells a b c) (h:w.heap[r]? =some o):(setObj r o').run P w= .ok () { w with heap:=w.heap.setIfInBounds r o' }:=by
 cases o<;>first | exact absurd rfl (hc _ _ _) | simp only[setObj,Sem.run,h]
theorem V3 (hT:TOk P T) {t kt et:TypeId} {it ik:TyI} {kd:IntKind} (ht:T t=some it) (hu:it.u= .map kt et) (hkt:T kt=some ik) (hku:ik.u= .int kd)
  (i j:Nat) {s:Seg} {r:Nat} {es:Array MapEntry} {c:Nat} {m:List (Int×Value)} (hi:L[i]? =some s) (hj:s[j]? =some (r,.map es c)) (hm:Jy kd es c m) {n:Int} {v:Value} {k:Gh→List Seg→Prop}
  (hk: ∀es' c',Jy kd es' c' (V9 n v m)→k μ (L.set i (s.set j (r,.map es' c')))):Jz P (Instr.mapUpdate t (.map (some r)) (.int kd n) v) μ L k:=by
 intro w hw;have hb:w.heap[r]? =some (.map es c):=hw.own (r,_) (List.mem_flatten.2 ⟨s,List.mem_of_getElem? hi,List.mem_of_getElem? hj⟩);have hc: ∀b,(Instr.checkKey b 10000 kt (.int kd n)).run P w= .ok () w:=fun b=>Ja hT hkt hku b 9999 _ w;rcases QaB kd n es.toList 0 hm.ps with ⟨h1,h2⟩ | ⟨jj,x,h1,h2,h3,h4,h5⟩
 ·refine ⟨_,μ,_,?_,Gh.le.refl _,hw.updObj hi hj (o':= .map (es.push { key:= .int kd n,val:=v,born:=c }) (c+1)),hk _ _ (hm.push h2)⟩
  simp only[Instr.mapUpdate,Sem.run_bind,QL hT ht hu (by simp),Result.andThen_ok,ZT w _ _ (by simp) hb,hc,Instr.findKey,QL hT hkt hku (by simp),h1,Sem.run_pure,Wt w r _ _ (by simp) hb]
 ·have hjl:jj<es.size:=by simpa using h3
  refine ⟨_,μ,_,?_,Gh.le.refl _,hw.updObj hi hj (o':= .map (es.modify jj fun e=>{ e with key:= .int kd n,val:=v }) c),hk _ _ (hm.put h4 (h5 v) hjl)⟩;have hold:((es[jj]?).map (·.key)).getD (.int kd n)= .int kd n:=by
   have:(es[jj]?).map (·.key)=some (.int kd n):=by rw[←h4];simp
   rw[this];rfl
  have hks:(Instr.keyThatStays (.int kd n) (.int kd n)).run P w= .ok (.int kd n) w:=by
   simp[Instr.keyThatStays,Instr.sameBits]
  simp only[Instr.mapUpdate,Sem.run_bind,QL hT ht hu (by simp),Result.andThen_ok,ZT w _ _ (by simp) hb,hc,Instr.findKey,QL hT hkt hku (by simp),h1,Sem.run_pure,Nat.zero_add,hold,hks,Wt w r _ _ (by simp) hb]
end
end Go.Proofs.Ytfdjjdhnfaklbaa
namespace Go.Proofs.Ytfdjjdhnfaklbaa
open Go.RowKit
set_option linter.unusedSimpArgs false
set_option linter.unusedVariables false
def Rd (μ:Gh) (L:List Seg) (A:Option Addr) (sz:Nat) (css:List (List Value)):Prop :=
 (∀cs∈css,cs.length=sz)∧(css≠[]→ ∃a,A=some a∧Yn μ L a css.flatten)
section
variable {μ:Gh} {L:List Seg}
theorem Qct {sz:Nat}: ∀{css:List (List Value)} {k:Nat} {v:Value},(∀cs∈css,cs.length=sz)→css.flatten[k]? =some v →
  ∃i j cs,css[i]? =some cs∧cs[j]? =some v∧k=i*sz+j
 | [],k,v,_,h=>by simp at h
 | c::r,k,v,hl,h=>by
  have hc:=hl c (by simp)
  rw[List.flatten_cons] at h
  by_cases hk:k<c.length
  ·rw[List.getElem?_append_left hk] at h
   exact ⟨0,k,c,by simp,h,by simp⟩
  ·rw[List.getElem?_append_right (by omega)] at h
   obtain ⟨i,j,cs,h1,h2,h3⟩:=Qct (fun c hc=>hl c (by simp[hc])) h;exact ⟨i+1,j,cs,by simpa using h1,h2,by rw[Nat.succ_mul];omega⟩
theorem Arr.rd {A:Option Addr} {sz:Nat} {css:List (List Value)} (h:Arr μ A sz css):Rd μ L A sz css:=by
 have hl: ∀cs∈css,cs.length=sz:=fun cs hcs=>by
  obtain ⟨i,hi⟩:=List.getElem?_of_mem hcs;exact (h i cs hi).1
 refine ⟨hl,fun hne=> ?_⟩;have h0:0<css.length:=List.length_pos_iff.2 hne;obtain ⟨_,a,ha,_⟩:=h 0 css[0] (List.getElem?_eq_getElem h0);refine ⟨a,ha,fun k v hk=> ?_⟩;obtain ⟨i,j,cs,h1,h2,rfl⟩:=Qct hl hk;obtain ⟨a',ha',hc⟩:=h.at_ (L:=L) h1
 rw[ha] at ha'
 injection ha' with ha'
 subst ha';have:=hc j v h2
 rwa [Addr.add_add'] at this
theorem Rd.at_ {A:Option Addr} {sz:Nat} {css:List (List Value)} (h:Rd μ L A sz css) {i:Nat} {cs:List Value} (hi:css[i]? =some cs): ∃a,A=some a∧Yn μ L (a.add (i*sz)) cs:=by
 obtain ⟨a,ha,hc⟩:=h.2 (fun e=>by rw[e] at hi;cases hi);refine ⟨a,ha,fun j v hj=> ?_⟩
 rw[Addr.add_add']
 exact hc _ v (QaC h.1 hi hj)
theorem Rd.mono {A:Option Addr} {sz:Nat} {css:List (List Value)} {μ':Gh} {L':List Seg} (h:Rd μ L A sz css) (hm:μ.le μ') (hl: ∀c∈L.flatten,c∈L'.flatten):Rd μ' L' A sz css :=
 ⟨h.1,fun hne=>by obtain ⟨a,ha,hc⟩:=h.2 hne;exact ⟨a,ha,hc.mono hm hl⟩⟩
theorem Rd.cons {A:Option Addr} {sz:Nat} {css:List (List Value)} {s:Seg} (h:Rd μ L A sz css):Rd μ (s::L) A sz css:=h.mono (Gh.le.refl _) (by intro c hc;simp[List.flatten_cons];exact .inr (by simpa using hc))
theorem Rd.nil {A:Option Addr} {sz:Nat}:Rd μ L A sz []:=⟨by simp,fun h=>absurd rfl h⟩
theorem Y0.rd {e:TypeId} {sz:Nat} {A:Option Addr} {n cap:Nat} {css:List (List Value)} {ch:Seg} (h:Y0 e sz (.slice A n cap) css ch) (i:Nat) (hi:L[i]? =some ch):Rd μ L A sz css:=by
 refine ⟨h.1,fun hne=> ?_⟩;rcases h.2 with ⟨_,rfl,_⟩ | ⟨g,cap',cur,hv,rfl,h1,h2,h3,h4⟩
 ·exact absurd rfl hne
 ·injection hv with hv _ _
  refine ⟨_,hv,fun k v hk=> ?_⟩
  rw[ZG]
  refine Y7.seg i 0 hi rfl ?_
  rw[←h4] at hk
  rw[List.getElem?_take] at hk
  split at hk
  ·simpa using hk
  ·cases hk
theorem Rd.chunk (i:Nat) {g:Nat} {cs:List Value} {e:TypeId} {f:Nat×Nat} {sz:Nat} {css:List (List Value)} (hi:L[i]? =some [(g,.cells cs.toArray e f)]) (hl: ∀c∈css,c.length=sz) (hc:cs=css.flatten) :
  Rd μ L (some ⟨g,0,none⟩) sz css :=
 ⟨hl,fun _=>⟨_,rfl,fun k v hk=>by rw[ZG];exact Y7.seg i 0 hi rfl (by simpa [hc] using hk)⟩⟩
end
section
variable {P:Program} {T:TT} {μ:Gh} {L:List Seg} {k:Value→Gh→List Seg→Prop}
theorem Qaj (hT:TOk P T) {t ty e:TypeId} {it ie:TyI} (ht:T t=some it) (hu:it.u= .slice e) (he:T e=some ie) (hz:ie.zero.cells.size=ie.size) (hsz:0<ie.size)
  {v:Value} {css:List (List Value)} {ch:Seg} (i:Nat) (hi:L[i]? =some ch) (hown:Y0 e ie.size v css ch)
  {A:Option Addr} {m c:Nat} {news:List (List Value)} (hm:news.length=m) (hr:Rd μ L A ie.size news) (h1: ∀cs∈news,∀u∈cs,u.oneCell'=true)
  (h63:css.length+m≤140737488355328) (hb:(css.length+m)*ie.bytes≤140737488355328)
  (hk: ∀v' ch',Y0 e ie.size v' (css++news) ch'→(css++news=[]→v'=v∨A≠none)→k v' μ (L.set i ch')) :
  Q5 P (Builtin.append_ #[t,t] ty #[v,.slice A m c]) μ L k :=
 Qc9 hT ht hu he hz hsz i hi hown hm hr.1 h1 (fun h=>hr.2 (fun e=>by rw[e] at hm;simp at hm;omega)) (by unfold maxLen;omega) hb hk
end
end Go.Proofs.Ytfdjjdhnfaklbaa
namespace Go.Proofs.Ytfdjjdhnfaklbaa
open Go.RowKit
set_option linter.unusedSimpArgs false
set_option linter.unusedVariables false
def evV (fr:Fr) (x:Operand):Option Value:=match x with
 | .tmp t=>Zm fr t
 | .const v=>some v
 | .global g=>some (.pointer (some ⟨g,0,none⟩))
 | .func f=>some (.func (.func f) #[] #[])
def JQ (fr:Fr):List Operand→Option (List Value)
 | []=>some []
 | x::xs=>match evV fr x with
  | some v=>(match JQ fr xs with | some vs=>some (v::vs) | none=>none)
  | none=>none
def Qa8 (fr:Fr):List (Nat×Operand)→Option (List (Nat×Value))
 | []=>some []
 | x::xs=>match evV fr x.2 with
  | some v=>(match Qa8 fr xs with | some vs=>some ((x.1,v)::vs) | none=>none)
  | none=>none
section
variable {P:Program} {T:TT} {N:NN} {fr:Fr} {μ:Gh} {L:List Seg}
theorem ev_of {x:Operand} {v:Value} {k:Value→Prop} (h:evV fr x=some v) (hk:k v):ev fr x k:=by
 cases x with
 | tmp t=>simp only[evV] at h;simp only[ev,evT,h];exact hk
 | const u=>simp only[evV,Option.some.injEq] at h;subst h;exact hk
 | global g=>simp only[evV,Option.some.injEq] at h;subst h;exact hk
 | func f=>simp only[evV,Option.some.injEq] at h;subst h;exact hk
theorem evs_of: ∀{xs:List Operand} {vs:List Value} {k:List Value→Prop},JQ fr xs=some vs→k vs→evs fr xs k
 | [],vs,k,h,hk=>by simp only[JQ,Option.some.injEq] at h;subst h;exact hk
 | x::xs,vs,k,h,hk=>by
  simp only[JQ] at h
  cases h1:evV fr x with
  | none=>rw[h1] at h;cases h
  | some v =>
   cases h2:JQ fr xs with
   | none=>rw[h1,h2] at h;cases h
   | some us =>
    rw[h1,h2] at h
    simp only[Option.some.injEq] at h
    subst h;exact ev_of h1 (evs_of (k:=fun vs=>k (v::vs)) h2 hk)
theorem QbV: ∀{xs:List (Nat×Operand)} {vs:List (Nat×Value)} {k:List (Nat×Value)→Prop},Qa8 fr xs=some vs→k vs→evp fr xs k
 | [],vs,k,h,hk=>by simp only[Qa8,Option.some.injEq] at h;subst h;exact hk
 | x::xs,vs,k,h,hk=>by
  simp only[Qa8] at h
  cases h1:evV fr x.2 with
  | none=>rw[h1] at h;cases h
  | some v =>
   cases h2:Qa8 fr xs with
   | none=>rw[h1,h2] at h;cases h
   | some us =>
    rw[h1,h2] at h
    simp only[Option.some.injEq] at h
    subst h;exact ev_of h1 (QbV (k:=fun vs=>k ((x.1,v)::vs)) h2 hk)
section
variable {k:Value→Prop}
theorem QK {x:Operand} {v:Value} (h:evV fr x=some v) (hk:k v):vcR P T (.move x) fr μ L k:=ev_of h hk
theorem Jo {x:Operand} {v:Value} (h:evV fr x=some v) (hk:k v):vcR P T (.assign x) fr μ L k:=ev_of h hk
theorem Qey {c a b:Operand} {v:Value} (h:evV fr c=some (.bool true)) (h2:evV fr a=some v) (hk:k v):vcR P T (.pick c a b) fr μ L k:=ev_of (k:=fun v=>Vx v (ev fr a k) (ev fr b k)) h (ev_of h2 hk)
theorem Qex {c a b:Operand} {v:Value} (h:evV fr c=some (.bool false)) (h2:evV fr b=some v) (hk:k v):vcR P T (.pick c a b) fr μ L k:=ev_of (k:=fun v=>Vx v (ev fr a k) (ev fr b k)) h (ev_of h2 hk)
theorem YX {t:TypeId} {a:Operand} {ad:Addr} {i:TyI} (h:evV fr a=some (.pointer (some ad))) (hT:T t=some i) (hi:Qa6 i.u=false) (hk:Ex (Y7 μ L ad) k):vcR P T (.load t a) fr μ L k:=by
 refine ev_of (k:=fun v=>WL T μ L t v k) h ?_
 simp only[WL,hT,hi];exact hk
theorem Qdn {t:TypeId} {a:Operand} {ad:Addr} {i:TyI} {n:Nat} (h:evV fr a=some (.pointer (some ad))) (hT:T t=some i) (hi:Qa6 i.u=true) (hn:i.size=n)
  (hk:Ex (fun vs:List Value=>vs.length=n∧Yn μ L ad vs) fun vs=>k (.agg vs.toArray)):vcR P T (.load t a) fr μ L k:=by
 refine ev_of (k:=fun v=>WL T μ L t v k) h ?_
 simp only[WL,hT,hi,hn];exact hk
theorem YY {x:Operand} {a:Addr} (h:evV fr x=some (.pointer (some a))) (hk:k (.pointer (some a))):vcR P T (.nilCheck x) fr μ L k:=ev_of (k:=fun v=>Qfw v k) h hk
theorem Qf2 {x:Operand} {f:FuncId} {a b:Array Value} (h:evV fr x=some (.func (.func f) a b)) (hk:k (.func (.func f) a b)):vcR P T (.nilCheck x) fr μ L k:=ev_of (k:=fun v=>Qfw v k) h hk
theorem Z0 {op:BinOp} {t yt:TypeId} {x y:Operand} {kd:IntKind} {a b:Int} (h:evV fr x=some (.int kd a)) (h2:evV fr y=some (.int kd b)) (hop:op≠ .shl∧op≠ .shr∧op≠ .and)
  (hk:QbX op kd a b k):vcR P T (.binOp op t x y yt) fr μ L k:=by
 refine ev_of (k:=fun a=>ev fr y fun b=>JD P T op t a b k) h (ev_of (k:=fun b=>JD P T op t (.int kd a) b k) h2 ?_);have hs: ∀p:Prop,p→QbJ kd kd p:=by intro p hp;cases kd<;>exact hp
 cases op<;>first | exact hs _ hk | exact absurd rfl hop.1 | exact absurd rfl hop.2.1 | exact absurd rfl hop.2.2
section
variable {t yt:TypeId} {x y:Operand} {kd:IntKind} {a b:Int}
theorem Qdm (h:evV fr x=some (.int kd a)) (h2:evV fr y=some (.int kd b)) (hk:k (.int kd (kd.wrap (a+b)))):vcR P T (.binOp .add t x y yt) fr μ L k:=Z0 h h2 (by simp) hk
theorem QgG (h:evV fr x=some (.int kd a)) (h2:evV fr y=some (.int kd b)) (hk:k (.int kd (kd.wrap (a-b)))):vcR P T (.binOp .sub t x y yt) fr μ L k:=Z0 h h2 (by simp) hk
theorem Qgz (h:evV fr x=some (.int kd a)) (h2:evV fr y=some (.int kd b)) (hk:k (.int kd (kd.wrap (a*b)))):vcR P T (.binOp .mul t x y yt) fr μ L k:=Z0 h h2 (by simp) hk
theorem QgE (h:evV fr x=some (.int kd a)) (h2:evV fr y=some (.int kd b)) (hk:b≠0∧k (.int kd (kd.wrap (a.tdiv b)))):vcR P T (.binOp .quo t x y yt) fr μ L k:=Z0 h h2 (by simp) hk
theorem QgF (h:evV fr x=some (.int kd a)) (h2:evV fr y=some (.int kd b)) (hk:b≠0∧k (.int kd (a.tmod b))):vcR P T (.binOp .rem t x y yt) fr μ L k:=Z0 h h2 (by simp) hk
theorem Qaq (h:evV fr x=some (.int kd a)) (h2:evV fr y=some (.int kd b)) (ht:a=b→k (.bool true)) (hf: ¬a=b→k (.bool false)):vcR P T (.binOp .eql t x y yt) fr μ L k:=Z0 h h2 (by simp) ⟨ht,hf⟩
theorem QgC (h:evV fr x=some (.int kd a)) (h2:evV fr y=some (.int kd b)) (ht: ¬a=b→k (.bool true)) (hf:a=b→k (.bool false)):vcR P T (.binOp .neq t x y yt) fr μ L k:=Z0 h h2 (by simp) ⟨ht,fun h=>hf (Classical.not_not.1 h)⟩
theorem Qgx (h:evV fr x=some (.int kd a)) (h2:evV fr y=some (.int kd b)) (ht:a<b→k (.bool true)) (hf: ¬a<b→k (.bool false)):vcR P T (.binOp .lss t x y yt) fr μ L k:=Z0 h h2 (by simp) ⟨ht,hf⟩
theorem Qgw (h:evV fr x=some (.int kd a)) (h2:evV fr y=some (.int kd b)) (ht:a≤b→k (.bool true)) (hf: ¬a≤b→k (.bool false)):vcR P T (.binOp .leq t x y yt) fr μ L k:=Z0 h h2 (by simp) ⟨ht,hf⟩
theorem Qgt (h:evV fr x=some (.int kd a)) (h2:evV fr y=some (.int kd b)) (ht:b<a→k (.bool true)) (hf: ¬b<a→k (.bool false)):vcR P T (.binOp .gtr t x y yt) fr μ L k:=Z0 h h2 (by simp) ⟨ht,hf⟩
theorem Qgs (h:evV fr x=some (.int kd a)) (h2:evV fr y=some (.int kd b)) (ht:b≤a→k (.bool true)) (hf: ¬b≤a→k (.bool false)):vcR P T (.binOp .geq t x y yt) fr μ L k:=Z0 h h2 (by simp) ⟨ht,hf⟩
end
theorem ZH {t:TypeId} {f:TypeDesc→Bool} {p:Prop} {i:TyI} (hT:T t=some i) (hf:f i.u=true) (hp:p):Ww T t f p:=by
 unfold Ww;rw[hT];simp only[hf];exact hp
section
variable {t yt:TypeId} {x y:Operand} {i:TyI}
theorem Qap {a b:Bool} (h:evV fr x=some (.bool a)) (h2:evV fr y=some (.bool b)) (hT:T t=some i) (hf:Qc2 i.u=true) (ht:a=b→k (.bool true)) (hf: ¬a=b→k (.bool false)):vcR P T (.binOp .eql t x y yt) fr μ L k :=
 ev_of (k:=fun a=>ev fr y fun b=>JD P T .eql t a b k) h (ev_of (k:=fun u=>JD P T .eql t (.bool a) u k) h2 (ZH hT (by assumption) ⟨ht,hf⟩))
theorem QgA {a b:Bool} (h:evV fr x=some (.bool a)) (h2:evV fr y=some (.bool b)) (hT:T t=some i) (hf:Qc2 i.u=true) (ht: ¬a=b→k (.bool true)) (hf:a=b→k (.bool false)):vcR P T (.binOp .neq t x y yt) fr μ L k :=
 ev_of (k:=fun a=>ev fr y fun b=>JD P T .neq t a b k) h (ev_of (k:=fun u=>JD P T .neq t (.bool a) u k) h2 (ZH hT (by assumption) ⟨ht,fun h=>hf (Classical.not_not.1 h)⟩))
theorem W8 (h:evV fr x=some (.pointer none)) (h2:evV fr y=some (.pointer none)) (hT:T t=some i) (hf:VY i.u=true) (hk:k (.bool true)):vcR P T (.binOp .eql t x y yt) fr μ L k :=
 ev_of (k:=fun a=>ev fr y fun b=>JD P T .eql t a b k) h (ev_of (k:=fun u=>JD P T .eql t (.pointer none) u k) h2 (ZH hT hf ⟨fun _=>hk,fun h=>absurd rfl h⟩))
theorem W9 {a:Addr} (h:evV fr x=some (.pointer (some a))) (h2:evV fr y=some (.pointer none)) (hT:T t=some i) (hf:VY i.u=true) (hk:k (.bool false)):vcR P T (.binOp .eql t x y yt) fr μ L k :=
 ev_of (k:=fun a=>ev fr y fun b=>JD P T .eql t a b k) h (ev_of (k:=fun u=>JD P T .eql t (.pointer (some a)) u k) h2 (ZH hT hf ⟨fun h=>(by cases h),fun _=>hk⟩))
theorem QcV (h:evV fr x=some (.pointer none)) (h2:evV fr y=some (.pointer none)) (hT:T t=some i) (hf:VY i.u=true) (hk:k (.bool false)):vcR P T (.binOp .neq t x y yt) fr μ L k :=
 ev_of (k:=fun a=>ev fr y fun b=>JD P T .neq t a b k) h (ev_of (k:=fun u=>JD P T .neq t (.pointer none) u k) h2 (ZH hT hf ⟨fun h=>absurd rfl h,fun _=>hk⟩))
theorem Qew {a:Addr} (h:evV fr x=some (.pointer (some a))) (h2:evV fr y=some (.pointer none)) (hT:T t=some i) (hf:VY i.u=true) (hk:k (.bool true)):vcR P T (.binOp .neq t x y yt) fr μ L k :=
 ev_of (k:=fun a=>ev fr y fun b=>JD P T .neq t a b k) h (ev_of (k:=fun u=>JD P T .neq t (.pointer (some a)) u k) h2 (ZH hT hf ⟨fun _=>hk,fun h=>absurd (by intro h;cases h) h⟩))
theorem Qbi {p:Option Addr} {n c n' c':Nat} (h:evV fr x=some (.slice p n c)) (h2:evV fr y=some (.slice none n' c')) (hT:T t=some i) (hf:WJ i.u=true) (ht:p=none→k (.bool true)) (hf2: ¬p=none→k (.bool false)) :
  vcR P T (.binOp .eql t x y yt) fr μ L k :=
 ev_of (k:=fun a=>ev fr y fun b=>JD P T .eql t a b k) h (ev_of (k:=fun u=>JD P T .eql t (.slice p n c) u k) h2 (ZH hT hf ⟨ht,hf2⟩))
theorem Qao {op:BinOp} {xs ys:Array Value} (h:evV fr x=some (.agg xs)) (h2:evV fr y=some (.agg ys))
  (hk:Ex (ZN P (do eqGuard op t (.tmp 0) (.tmp 0) (.agg xs) (.agg ys);binOp op t (.agg xs) (.agg ys))) k):vcR P T (.binOp op t x y yt) fr μ L k :=
 ev_of (k:=fun a=>ev fr y fun b=>JD P T op t a b k) h (ev_of (k:=fun u=>JD P T op t (.agg xs) u k) h2 hk)
end
theorem QgD {t:TypeId} {x:Operand} {b:Bool} (h:evV fr x=some (.bool b)) (hk:k (.bool !b)):vcR P T (.unOp .not t x) fr μ L k:=ev_of (k:=fun a=>unK .not a k) h hk
theorem QgB {t:TypeId} {x:Operand} {kd:IntKind} {n:Int} (h:evV fr x=some (.int kd n)) (hk:k (.int kd (kd.wrap (0-n)))):vcR P T (.unOp .neg t x) fr μ L k:=ev_of (k:=fun a=>unK .neg a k) h hk
theorem QfY {args:Array Operand} {tys:Array TypeId} {kd kd':IntKind} {x y n:Int} (h:JQ fr args.toList=some [.int kd x,.int kd' y]) (hn:(if y>x then y else x)=n) (hk:k (.int kd n)):vcR P T (.call ⟨.builtin .max,args,tys⟩) fr μ L k:=evs_of (k:=fun vs=>biK T .max tys.toList vs μ L k) h (by show k (.int kd (if y>x then y else x));rw[hn];exact hk)
theorem QfP {s d:TypeId} {x:Operand} {kd kd':IntKind} {n:Int} {i j:TyI} (h:evV fr x=some (.int kd n)) (hs:T s=some j) (hd:T d=some i) (hu:i.u= .int kd') (hk:k (.int kd' (kd'.wrap n))):vcR P T (.convert s d x) fr μ L k:=by
 refine ev_of (k:=fun a=>Qcn T s d a k) h ?_
 simp only[Qcn,hs,hd,hu,Qd1];exact hk
theorem Wf {t:TypeId} {ps:Array (Nat×Operand)} {vs:List (Nat×Value)} {i:TyI} (h:Qa8 fr ps.toList=some vs) (hT:T t=some i) (hs:JC i.u=true) (hall:i.flds.all (·.isSome)=true)
  (hk:Jg (Qe1 i) i.zero.cells.toList vs fun cs=>k (.agg cs.toArray)):vcR P T (.build t ps) fr μ L k:=by
 refine QbV (k:=fun vs=>Ve T t vs k) h ?_
 simp only[Ve,hT,hs];exact ⟨hall,hk⟩
theorem Qfm {s:TypeId} {x:Operand} {f:Nat} {a:Addr} {i:TyI} {q1 q2:Nat} {q3:Bool} (h:evV fr x=some (.pointer (some a))) (hT:T s=some i) (hs:JC i.u=true) (hf:i.flds[f]? =some (some (q1,q2,q3))) (h0:Nat.beq q2 0=false)
  (hk:k (.pointer (some (a.add q1)))):vcR P T (.fieldAddr s x f) fr μ L k:=by
 refine ev_of (k:=fun v=>faK T s v f k) h ?_
 simp only[faK,hT,hs,hf];exact ⟨Nat.ne_of_beq_eq_false h0,hk⟩
theorem Y9 {s:TypeId} {x:Operand} {f g o:Nat} {i:TyI} {q1 q2:Nat} {q3:Bool} (h:evV fr x=some (.pointer (some ⟨g,o,none⟩))) (hT:T s=some i) (hs:JC i.u=true) (hf:i.flds[f]? =some (some (q1,q2,q3))) (h0:Nat.beq q2 0=false)
  {o':Nat} (ho:o+q1=o') (hk:k (.pointer (some ⟨g,o',none⟩))):vcR P T (.fieldAddr s x f) fr μ L k:=by
 refine Qfm h hT hs hf h0 ?_
 rw[ZG,ho];exact hk
theorem QfJ {s:TypeId} {x:Operand} {f:Nat} {a:Addr} {i:TyI} {q2:Nat} {q3:Bool} (h:evV fr x=some (.pointer (some a))) (hT:T s=some i) (hs:JC i.u=true) (hf:i.flds[f]? =some (some (0,q2,q3))) (h0:Nat.beq q2 0=false)
  (hk:k (.pointer (some a))):vcR P T (.fieldAddr s x f) fr μ L k:=by
 refine Qfm h hT hs hf h0 ?_
 rw[Addr.add_zero'];exact hk
theorem Qfn {s:TypeId} {x:Operand} {f:Nat} {cs:Array Value} {i:TyI} {q1 q2:Nat} {u:Value} (h:evV fr x=some (.agg cs)) (hT:T s=some i) (hs:JC i.u=true) (hf:i.flds[f]? =some (some (q1,q2,false)))
  (hu:cs.toList[q1]? =some u) (hk:k u):vcR P T (.field s x f) fr μ L k:=by
 refine ev_of (k:=fun v=>Vg T s v f k) h ?_
 simp only[Vg,hT,hs,hf];exact ⟨u,by simpa using hu,hk⟩
theorem Qet {s:TypeId} {x:Operand} {f:Nat} {cs:Array Value} {i:TyI} {q1 q2:Nat} (h:evV fr x=some (.agg cs)) (hT:T s=some i) (hs:JC i.u=true) (hf:i.flds[f]? =some (some (q1,q2,true)))
  {vs:List Value} (hu:(cs.toList.drop q1).take q2=vs) (hk:k (.agg vs.toArray)):vcR P T (.field s x f) fr μ L k:=by
 refine ev_of (k:=fun v=>Vg T s v f k) h ?_
 simp only[Vg,hT,hs,hf]
 have:cs.extract q1 (q1+q2)=vs.toArray:=by rw[←hu,←Array.toList_inj];simp[List.extract_eq_take_drop]
 rw[this];exact hk
theorem Qcq {t e:TypeId} {i j:TyI} {k:TypeId→TyI→Prop} (hT:T t=some i) (hu:i.u= .slice e) (he:T e=some j) (hk:k e j):VT T t k:=by
 simp only[VT,hT,hu,he];exact hk
theorem QgR {t e:TypeId} {x n:Operand} {A:Option Addr} {len c:Nat} {kd:IntKind} {ix:Int} {i j:TyI} {sz:Nat} (h:evV fr x=some (.slice A len c)) (h2:evV fr n=some (.int kd ix)) (hT:T t=some i) (hu:i.u= .slice e) (he:T e=some j) (hs:j.size=sz)
  (hk:0≤ix∧ix<len∧Ex (fun a=>A=some a) fun a=>k (.pointer (some (a.add (ix.toNat*sz))))):vcR P T (.indexAddr t x n) fr μ L k :=
 ev_of (k:=fun v=>ev fr n fun n=>iaK T t v n k) h (ev_of (k:=fun u=>iaK T t (.slice A len c) u k) h2 (Qcq hT hu he (by rw[hs];exact hk)))
theorem Qgu {t e:TypeId} {x n:Operand} {a:Addr} {len:Nat} {kd:IntKind} {ix:Int} {i j:TyI} {sz:Nat} (h:evV fr x=some (.pointer (some a))) (h2:evV fr n=some (.int kd ix)) (hT:T t=some i) (hu:i.u= .array len e) (he:T e=some j) (hs:j.size=sz)
  (hg:0≤ix∧ix<len) (hk:k (.pointer (some (a.add (ix.toNat*sz))))):vcR P T (.indexAddr t x n) fr μ L k:=by
 refine ev_of (k:=fun v=>ev fr n fun n=>iaK T t v n k) h (ev_of (k:=fun u=>iaK T t (.pointer (some a)) u k) h2 ?_)
 simp only[iaK,Qf3,hT,hu,he]
 exact ⟨hg.1,hg.2,by rw[hs];exact hk⟩
theorem Qgr {x:Operand} {i:Nat} {vs:Array Value} {u:Value} (h:evV fr x=some (.tuple vs)) (hu:vs.toList[i]? =some u) (hk:k u):vcR P T (.extract x i) fr μ L k:=by
 refine ev_of (k:=fun v=>QeG v i k) h ?_;have:vs[i]? =some u:=by simpa using hu
 simp only[QeG,this];exact hk
theorem QfK {f:Go.Fn} {fi ca:Array Operand} {a b:List Value} (h:JQ fr fi.toList=some a) (h2:JQ fr ca.toList=some b) (hk:k (.func f a.toArray b.toArray)):vcR P T (.makeFunc f fi ca) fr μ L k :=
 evs_of (k:=fun a=>evs fr ca.toList fun b=>k (.func f a.toArray b.toArray)) h (evs_of (k:=fun b=>k (.func f a.toArray b.toArray)) h2 hk)
theorem Qgy {args:Array Operand} {tys:Array TypeId} {kd kd':IntKind} {x y:Int} (h:JQ fr args.toList=some [.int kd x,.int kd' y]) (hk:k (.int kd (if y<x then y else x))):vcR P T (.call ⟨.builtin .min,args,tys⟩) fr μ L k :=
 evs_of (k:=fun vs=>biK T .min tys.toList vs μ L k) h hk
theorem QfZ {args:Array Operand} {tys:Array TypeId} {kd kd':IntKind} {x y n:Int} (h:JQ fr args.toList=some [.int kd x,.int kd' y]) (hn:(if y<x then y else x)=n) (hk:k (.int kd n)):vcR P T (.call ⟨.builtin .min,args,tys⟩) fr μ L k:=Qgy h (by rw[hn];exact hk)
theorem QeQ {args:Array Operand} {t:TypeId} {v:Value} (h:JQ fr args.toList=some [v]) (hk:Qfv T t v μ L k):vcR P T (.call ⟨.builtin .len,args, #[t]⟩) fr μ L k :=
 evs_of (k:=fun vs=>biK T .len [t] vs μ L k) h hk
theorem QbP {args:Array Operand} {t:TypeId} {A:Option Addr} {n c:Nat} {i:TyI} (h:JQ fr args.toList=some [.slice A n c]) (hT:T t=some i) (hf:WJ i.u=true) (hk:k (.int .i64 n)):vcR P T (.call ⟨.builtin .len,args, #[t]⟩) fr μ L k :=
 QeQ h (ZH hT hf hk)
theorem QfV {args:Array Operand} {t:TypeId} {s:ByteArray} {i:TyI} (h:JQ fr args.toList=some [.string s]) (hT:T t=some i) (hf:Qgd i.u=true) (hk:k (.int .i64 s.size)):vcR P T (.call ⟨.builtin .len,args, #[t]⟩) fr μ L k :=
 QeQ h (ZH hT hf hk)
theorem Qgq {args:Array Operand} {t:TypeId} {A:Option Addr} {n c:Nat} {i:TyI} (h:JQ fr args.toList=some [.slice A n c]) (hT:T t=some i) (hf:WJ i.u=true) (hk:k (.int .i64 c)):vcR P T (.call ⟨.builtin .cap,args, #[t]⟩) fr μ L k :=
 evs_of (k:=fun vs=>biK T .cap [t] vs μ L k) h (ZH hT hf hk)
theorem Vb {t kt et:TypeId} {m x:Operand} {ok:Bool} {r:Nat} {kd:IntKind} {n:Int} {i ik ie:TyI} {z:Value} (h:evV fr m=some (.map (some r))) (h2:evV fr x=some (.int kd n)) (hT:T t=some i) (hu:i.u= .map kt et) (hk:T kt=some ik) (hku:ik.u= .int kd) (he:T et=some ie) (hz:ie.zero=z)
  (hk:Ex (fun x:Value×Bool=> ∃es c,YV μ L r (.map es c)∧JE kd es.toList∧x=(match JR n es.toList with | some v=>(v,true) | none=>(z,false))) fun x=>k (okK ok x.1 x.2)):vcR P T (.lookup t m x ok) fr μ L k:=by
 refine ev_of (k:=fun v=>ev fr x fun n=>QaN P T t v n ok μ L k) h (ev_of (k:=fun n=>QaN P T t (.map (some r)) n ok μ L k) h2 ?_);have hs: ∀p:Prop,p→QbJ kd kd p:=by intro p hp;cases kd<;>exact hp
 simp only[QaN,hT,hu, ‹T kt=some ik›,hku,Qd1,he]
 subst hz;exact hs _ hk
end
theorem Zi {pl:Nat→Option (Nat×Nat)} {cells:List Value} {k:List Value→Prop} (h:k cells):Jg pl cells [] k:=h
theorem Qv {pl:Nat→Option (Nat×Nat)} {cells cells':List Value} {k:List Value→Prop} {i:Nat} {v:Value} {r:List (Nat×Value)} {q1 q2:Nat} (hp:pl i=some (q1,q2)) (h1:v.cells.size=q2) (h2:Nat.ble (q1+q2) cells.length=true)
  (h3:Zq cells q1 v.cells.toList=cells') (h:Jg pl cells' r k):Jg pl cells ((i,v)::r) k:=by
 simp only[Jg,hp]
 exact ⟨h1,Nat.le_of_ble_eq_true h2,by rw[h3];exact h⟩
def Qcz:Op→Bool
 | .move _ | .assign _ | .pick .. | .load .. | .nilCheck _ | .binOp .. | .unOp .. | .convert .. | .build .. | .fieldAddr .. | .field .. | .indexAddr .. | .extract .. | .makeFunc .. | .slice .. | .lookup .. | .index .. =>true
 | .call ⟨.builtin b,_,_⟩=>(match b with | .len | .cap | .min | .max=>true | _=>false)
 | _=>false
section
variable {k:Value→Gh→List Seg→Prop} {ty:TypeId}
theorem Wc {o:Op} (h:Qcz o=true) (hk:vcR P T o fr μ L fun v=>k v μ L):vcO P T o ty fr μ L k:=by
 cases o<;>first | exact hk | (simp[Qcz] at h;done) | skip
 rename_i c
 obtain ⟨ce,args,tys⟩:=c;cases ce with
 | value f=>simp[Qcz] at h
 | invoke r m=>simp[Qcz] at h
 | builtin b=>cases b<;>first | exact hk | (simp[Qcz] at h;done)
theorem Jm {t:TypeId} {a x:Operand} {ad:Addr} {v:Value} {i:TyI} (h:evV fr a=some (.pointer (some ad))) (h2:evV fr x=some v) (hT:T t=some i) (hs:v.cells.size=i.size) (h1:v.cells.toList.all (·.oneCell')=true)
  {vs:List Value} (hv:v.cells.toList=vs) (hk:Ex (WG L ad vs) fun L'=>k undef μ L'):vcO P T (.store t a x) ty fr μ L k:=by
 refine ev_of (k:=fun p=>ev fr x fun v=>Vm T t p v L fun L'=>k undef μ L') h (ev_of (k:=fun v=>Vm T t (.pointer (some ad)) v L fun L'=>k undef μ L') h2 ?_)
 simp only[Vm,hT]
 subst hv;exact ⟨hs,fun c hc=>List.all_eq_true.1 h1 c (by simpa using hc),hk⟩
theorem QbN {t:TypeId} {i:TyI} {cs:Array Value} (hT:T t=some i) (hz:i.zero.cells=cs) (hk: ∀g,k (.pointer (some ⟨g,0,none⟩)) μ ([(g,.cells cs t)]::L)):vcO P T (.alloc t) ty fr μ L k:=by
 simp only[vcO,QcW,hT,hz];exact hk
theorem QfH {t:TypeId} {x:Operand} {v:Value} {cs:Array Value} (h:evV fr x=some v) (hc:v.cells=cs) (hk: ∀g,k (.pointer (some ⟨g,0,none⟩)) μ ([(g,.cells cs t)]::L)):vcO P T (.box t x) ty fr μ L k:=by
 refine ev_of (k:=fun v=> ∀g,k (.pointer (some ⟨g,0,none⟩)) μ ([(g,.cells v.cells t)]::L)) h ?_
 rw[hc];exact hk
theorem Jf {t e:TypeId} {n:Nat} {ps:Array (Nat×Operand)} {vs:List (Nat×Value)} {i j:TyI} (h:Qa8 fr ps.toList=some vs) (hT:T t=some i) (hu:i.u= .slice e) (he:T e=some j) (hn:Nat.ble (n*j.size) 16777216=true) (hz:j.zero.cells.size=j.size)
  {z:List Value} (hz2:cyc j.zero.cells.toList n=z) (hk:Jg (fun i=>some (i*j.size,j.size)) z vs fun cs=> ∀g,k (.slice (some ⟨g,0,none⟩) n n) μ ([(g,.cells cs.toArray e)]::L)):vcO P T (.buildSlice t n ps) ty fr μ L k:=by
 refine QbV (k:=fun vs=>Qas T t n vs fun e cs=> ∀g,k (.slice (some ⟨g,0,none⟩) n n) μ ([(g,.cells cs.toArray e)]::L)) h ?_;exact Qcq hT hu he ⟨Nat.le_of_ble_eq_true hn,hz,by rw[hz2];exact hk⟩
theorem QbO {t:TypeId} (hk: ∀g,k (.map (some g)) μ ([(g,.map #[] 0)]::L)):vcO P T (.makeMap t none) ty fr μ L k:=hk
theorem WF {t:TypeId} {m x v:Operand} {a b c:Value} (h:evV fr m=some a) (h2:evV fr x=some b) (h3:evV fr v=some c) (hk:Jz P (Instr.mapUpdate t a b c) μ L fun μ' L'=>k undef μ' L'):vcO P T (.mapUpdate t m x v) ty fr μ L k :=
 ev_of (k:=fun a=>ev fr x fun b=>ev fr v fun c=>Jz P (Instr.mapUpdate t a b c) μ L fun μ' L'=>k undef μ' L') h (ev_of (k:=fun b=>ev fr v fun c=>Jz P (Instr.mapUpdate t a b c) μ L fun μ' L'=>k undef μ' L') h2
  (ev_of (k:=fun c=>Jz P (Instr.mapUpdate t a b c) μ L fun μ' L'=>k undef μ' L') h3 hk))
theorem Qfj {t:TypeId} {x:Operand} {a:Value} (h:evV fr x=some a) (hk:Q5 P (Instr.range t a) μ L k):vcO P T (.range t x) ty fr μ L k:=ev_of (k:=fun a=>Q5 P (Instr.range t a) μ L k) h hk
theorem Qer {x:Operand} {s:Bool} {a:Value} (h:evV fr x=some a) (hk:Q5 P (Instr.next a s ty) μ L k):vcO P T (.next x s) ty fr μ L k:=ev_of (k:=fun a=>Q5 P (Instr.next a s ty) μ L k) h hk
theorem QcT {f:Operand} {args:Array Operand} {tys:Array TypeId} {g:FuncId} {fi ca:Array Value} {vs all:List Value} (h:evV fr f=some (.func (.func g) fi ca)) (h2:JQ fr args.toList=some vs) (ha:fi.toList++vs++ca.toList=all)
  (hk:Fn P g all μ L k):vcO P T (.call ⟨.value f,args,tys⟩) ty fr μ L k:=by
 refine ev_of (k:=fun fv=>evs fr args.toList fun vs=>Qcl P fv vs μ L k) h (evs_of (k:=fun vs=>Qcl P (.func (.func g) fi ca) vs μ L k) h2 ?_)
 show Fn P g (fi.toList++vs++ca.toList) μ L k
 rw[ha];exact hk
theorem YL {args:Array Operand} {tys:Array TypeId} {vs:List Value} (h:JQ fr args.toList=some vs) (hk:Q5 P (Builtin.append_ tys ty vs.toArray) μ L k):vcO P T (.call ⟨.builtin .append,args,tys⟩) ty fr μ L k :=
 evs_of (k:=fun vs=>biO P T .append tys ty vs μ L k) h hk
theorem Qeq {args:Array Operand} {tys:Array TypeId} {vs:List Value} (h:JQ fr args.toList=some vs) (hk:Q5 P (Builtin.delete_ tys ty vs.toArray) μ L k):vcO P T (.call ⟨.builtin .delete,args,tys⟩) ty fr μ L k :=
 evs_of (k:=fun vs=>biO P T .delete tys ty vs μ L k) h hk
end
section
variable {ops r:List Oper} {dst:Option Tmp} {op:Op} {ty:TypeId} {pos:String} {aft:Array Edge} {K:Qs} {j:Nat} {w:Bool} {d:Tmp}
theorem Qam (h:K fr μ L):WT P T N ops [] fr μ L K:=h
theorem W7 (h:vcO P T op ty fr μ L fun v μ' L'=>Yx N dst v fr fun fr'=>WT P T N ops r fr' μ' L' K):WT P T N ops (⟨dst,op,ty,pos,aft,none⟩::r) fr μ L K:=h
theorem QR {v:Value} {k:Fr→Prop} (hd:Nat.blt d N.n=true) (h:k ((d,v)::fr)):Yx N (some d) v fr k:=⟨by simpa [Nat.blt_eq] using hd,h⟩
theorem ZR {v:Value} {k:Fr→Prop} (h:k fr):Yx N none v fr k:=h
variable {μ0:Gh} {keep:List Seg} {pl:List (Bool×Nat)} {i:Nat}
theorem We (h:K fr μ L):YA P T N ops μ0 keep [] fr μ L K:=h
theorem Vq (hi:Ze ops i=some ⟨dst,op,ty,pos,aft,none⟩) (h:vcR P T op fr μ0 keep fun v=>Yx N dst v fr fun fr'=>YA P T N ops μ0 keep pl fr' μ L K):YA P T N ops μ0 keep ((true,i)::pl) fr μ L K:=by
 simp only[YA,hi];exact h
theorem Vp (hi:Ze ops i=some ⟨dst,op,ty,pos,aft,none⟩) (h:vcO P T op ty fr μ L fun v μ' L'=>QP keep L'∧Yx N dst v fr fun fr'=>YA P T N ops μ0 keep pl fr' μ' L' K):YA P T N ops μ0 keep ((false,i)::pl) fr μ L K:=by
 simp only[YA,hi];exact h
def Wn (P:Program) (T:TT) (N:NN) (ops:List Oper) (μ0:Gh) (keep:List Seg) (fuel:Nat) (listed:List Bool) (K:Qs) (fr:Fr) (μ:Gh) (L:List Seg) (i:Nat):Prop :=
 ∃o,ops[i]? =some o∧YH ops fr o.guard (vcO P T o.op o.type fr μ L fun v μ' L'=>QP keep L'∧Yx N o.dst v fr fun fr'=>AN P N ops μ0 keep fuel (listed.set i true) K fr' μ' L')
   (Yx N o.dst undef fr fun fr'=>AN P N ops μ0 keep fuel (listed.set i true) K fr' μ L)
variable {fuel:Nat} {listed:List Bool}
theorem QgP (hT:TOk P T) {a b:Nat} (hr:Region.ready .any ops.toArray listed.toArray=[a,b]) (h1:Wn P T N ops μ0 keep fuel listed K fr μ L a) (h2:Wn P T N ops μ0 keep fuel listed K fr μ L b) :
  AN P N ops μ0 keep (fuel+1) listed K fr μ L:=by
 refine AN.fork hT hr rfl fun i hi=> ?_
 simp only[List.mem_cons,List.not_mem_nil,or_false] at hi
 rcases hi with rfl | rfl
 ·exact h1
 ·exact h2
theorem FO_ {listed':List Bool} (hi:Ze ops i=some ⟨dst,op,ty,pos,aft,none⟩) (hl:listed.set i true=listed') (h:vcO P T op ty fr μ L fun v μ' L'=>QP keep L'∧Yx N dst v fr fun fr'=>AN P N ops μ0 keep fuel listed' K fr' μ' L') :
  Wn P T N ops μ0 keep fuel listed K fr μ L i:=⟨_,by rw[←JL];exact hi,by rw[hl];exact h⟩
theorem AN.run (hT:TOk P T) (plan:List (Bool×Nat)) {listed':List Bool} {n:Nat} (hs:Region.noSelect ops.toArray=true) (hp:Zf ops plan listed=some listed') (hn:fuel+plan.length=n)
  (h:YA P T N ops μ0 keep plan fr μ L (AN P N ops μ0 keep fuel listed' K)):AN P N ops μ0 keep n listed K fr μ L:=by
 rw[←hn];exact AN.steps hT hs plan listed hp h
end
section
variable {K:Qs} {B:Nat→Qs} {R:Qs}
theorem Jq {c:Operand} {x y:Code} (h:evV fr c=some (.bool true)) (hk:WP P N x K B R fr μ L):WP P N (.cond c x y) K B R fr μ L:=WP.cond (ev_of (k:=fun v=>Vx v (WP P N x K B R fr μ L) (WP P N y K B R fr μ L)) h hk)
theorem Jp {c:Operand} {x y:Code} (h:evV fr c=some (.bool false)) (hk:WP P N y K B R fr μ L):WP P N (.cond c x y) K B R fr μ L:=WP.cond (ev_of (k:=fun v=>Vx v (WP P N x K B R fr μ L) (WP P N y K B R fr μ L)) h hk)
theorem JX {c:Operand} {x y:Code} {b:Bool} (h:evV fr c=some (.bool b)) (ht:b=true→WP P N x K B R fr μ L) (hf:b=false→WP P N y K B R fr μ L):WP P N (.cond c x y) K B R fr μ L:=by
 refine WP.cond (ev_of (k:=fun v=>Vx v (WP P N x K B R fr μ L) (WP P N y K B R fr μ L)) h ?_);cases b
 ·exact hf rfl
 ·exact ht rfl
theorem Qar {k:List Value→Prop} (h:k []):JN T [] fr μ L k:=h
theorem VQ {t:Tmp} {r:List ResultVar} {k:List Value→Prop} {v:Value} (h:Zm fr t=some v) (hk:JN T r fr μ L fun vs=>k (v::vs)):JN T (.tmp t::r) fr μ L k:=by
 simp only[JN,h,evT];exact hk
end
end
theorem ST_ {L L':List Seg} {k:List Seg→Prop} (i j:Nat) {s:Seg} {g off:Nat} {cs:Array Value} {e:TypeId} {vs:List Value} (hi:L[i]? =some s) (hj:s[j]? =some (g,.cells cs e (0,0))) (hl:Nat.ble (off+vs.length) cs.size=true)
  (hL:L.set i (s.set j (g,.cells (Zq cs.toList off vs).toArray e (0,0)))=L') (hk:k L'):Ex (WG L ⟨g,off,none⟩ vs) k:=Ex.mk _ (WG.seg i j hi hj (Nat.le_of_ble_eq_true hl)) (by rw[hL];exact hk)
theorem LA_ {μ:Gh} {L:List Seg} {k:List Value→Prop} (i j:Nat) {s:Seg} {g off n:Nat} {cs:Array Value} {e:TypeId} {f:Nat×Nat} {vs:List Value} (hi:L[i]? =some s) (hj:s[j]? =some (g,.cells cs e f))
  (hv:(cs.toList.drop off).take n=vs) (hl:Nat.beq vs.length n=true) (hk:k vs):Ex (fun vs:List Value=>vs.length=n∧Yn μ L ⟨g,off,none⟩ vs) k:=by
 have hl:=Nat.eq_of_beq_eq_true hl;exact Ex.mk vs ⟨hl,Yn.seg i j hi hj (by rw[hl];exact hv)⟩ hk
theorem AN.done0 {P:Program} {N:NN} {ops:List Oper} {μ0 μ:Gh} {keep L:List Seg} {listed:List Bool} {K:Qs} {fr:Fr} (hr:Region.ready .any ops.toArray listed.toArray=[]) (h:K fr μ L):AN P N ops μ0 keep 0 listed K fr μ L:=AN.done hr h
theorem Qfc {L:List Seg} {i:Nat} {s:Seg} (hi:L[i]? =some s):L.set i s=L:=by
 refine List.ext_getElem? fun k=> ?_
 by_cases hk:i=k
 ·subst hk
  rw[List.getElem?_set_self (by
   rcases Nat.lt_or_ge i L.length with h | h
   ·exact h
   ·rw[List.getElem?_eq_none h] at hi;cases hi),hi]
 ·rw[List.getElem?_set_ne hk]
theorem QP.more {L L':List Seg} {s:Seg} (h:QP L L'):QP L (s::L'):=fun c hc=>by simp only[List.flatten_cons,List.mem_append];exact .inr (h c hc)
end Go.Proofs.Ytfdjjdhnfaklbaa
namespace Go.Proofs.Ytfdjjdhnfaklbaa
open Go.RowKit
set_option linter.unusedSimpArgs false
set_option linter.unusedVariables false
theorem QcJ {L:List Seg} {i j:Nat} {t:Seg} (hij:i≠j) (hj:L[j]? =some t):(L.set i [])[j]? =some t:=by
 rw[List.getElem?_set_ne hij];exact hj
theorem Inv.apart {w:World} {μ:Gh} {L:List Seg} (h:Inv w μ L) {i j:Nat} {s t:Seg} (hij:i≠j) (hi:L[i]? =some s) (hj:L[j]? =some t) {c d:Qcc} (hc:c∈s) (hd:d∈t):c.1≠d.1:=by
 have h1:=(h.perm (Yq hi)).nd
 simp only[List.flatten_cons,List.map_append,List.nodup_append] at h1
 exact h1.2.2 c.1 (List.mem_map.2 ⟨c,hc,rfl⟩) d.1 (List.mem_map.2 ⟨d,List.mem_flatten.2 ⟨t,List.mem_of_getElem? (QcJ hij hj),hd⟩,rfl⟩)
theorem Y0.open {e:TypeId} {sz n:Nat} {v:Value} {css:List (List Value)} {ch:Seg} (h:Y0 e sz v css ch) (hn:css.length=n) (h0:0<n) :
  ∃g cap tl,v= .slice (some ⟨g,0,none⟩) n cap∧ch=[(g,.cells (css.flatten++tl).toArray e (0,0))]∧n≤cap∧cap≤maxLen∧css.flatten.length+tl.length=cap*sz:=by
 rcases h.2 with ⟨_,rfl,_⟩ | ⟨g,cap,cur,rfl,rfl,h1,h2,h3,h4⟩
 ·simp at hn;omega
 ·refine ⟨g,cap,cur.toList.drop (n*sz),by rw[hn],?_,by omega,h2,?_⟩
  ·rw[←hn,←h4,List.take_append_drop]
  ·rw[←h4,hn,←List.length_append,List.take_append_drop];simpa using h3
theorem Y0.of {e:TypeId} {sz n g cap:Nat} {css:List (List Value)} {l tl:List Value} (h: ∀cs∈css,cs.length=sz) (hl:l=css.flatten++tl) (hn:css.length=n) (hc:n≤cap) (hm:cap≤maxLen) (hlen:css.flatten.length+tl.length=cap*sz) :
  Y0 e sz (.slice (some ⟨g,0,none⟩) n cap) css [(g,.cells l.toArray e (0,0))]:=by
 refine ⟨h,.inr ⟨g,cap,l.toArray,by rw[hn],rfl,by omega,hm,by rw[List.size_toArray,hl,List.length_append,hlen],?_⟩⟩;have:=Ys h
 simp only[hl,←this,List.take_left]
theorem QfG {L:List Seg} {i:Nat} {s:Seg} (s':Seg) (hi:L[i]? =some s):(L.set i s')[i]? =some s':=by
 refine List.getElem?_set_self ?_;rcases Nat.lt_or_ge i L.length with h | h
 ·exact h
 ·rw[List.getElem?_eq_none h] at hi;cases hi
theorem WG.at {L:List Seg} {g off:Nat} {l l' vs:List Value} {e:TypeId} (i:Nat) (hi:L[i]? =some [(g,.cells l.toArray e (0,0))]) (hl:Zq l off vs=l') (hlen:off+vs.length≤l.length) :
  WG L ⟨g,off,none⟩ vs (L.set i [(g,.cells l'.toArray e (0,0))]):=by
 have:=WG.seg (L:=L) (off:=off) (vs:=vs) i 0 hi rfl (by simpa using hlen)
 simpa [hl] using this
section
variable {μ:Gh} {L:List Seg}
theorem Rd.take {A:Option Addr} {sz:Nat} {css:List (List Value)} (h:Rd μ L A sz css) (k:Nat):Rd μ L A sz (css.take k):=by
 refine ⟨fun cs hc=>h.1 cs (List.mem_of_mem_take hc),fun hne=> ?_⟩;obtain ⟨a,ha,hc⟩:=h.2 (fun e=>hne (by rw[e];simp));refine ⟨a,ha,fun j v hj=>hc j v ?_⟩;have:css.flatten=(css.take k).flatten++(css.drop k).flatten:=by rw[←List.flatten_append,List.take_append_drop]
 rw[this,List.getElem?_append_left (by
  rcases Nat.lt_or_ge j (css.take k).flatten.length with h | h
  ·exact h
  ·rw[List.getElem?_eq_none h] at hj;cases hj)]
 exact hj
theorem Rd.drop {A:Option Addr} {sz:Nat} {css:List (List Value)} (h:Rd μ L A sz css) {k:Nat} (hk:k<css.length): ∃a,A=some a∧Yn μ L (a.add (k*sz)) (css.drop k).flatten:=by
 obtain ⟨a,ha,hc⟩:=h.2 (fun e=>by rw[e] at hk;simp at hk);refine ⟨a,ha,fun j v hj=> ?_⟩
 rw[Addr.add_add']
 refine hc _ v ?_;have h1:css.flatten=(css.take k).flatten++(css.drop k).flatten:=by rw[←List.flatten_append,List.take_append_drop]
 have h2:(css.take k).flatten.length=k*sz:=by
  rw[Ys fun cs hc=>h.1 cs (List.mem_of_mem_take hc),List.length_take,Nat.min_eq_left (by omega)]
 rw[h1,List.getElem?_append_right (by omega),h2,Nat.add_sub_cancel_left]
 exact hj
end
theorem WP.arr {P:Program} {N:NN} {c:Code} {K:Qs} {B:Nat→Qs} {Rk:Qs} {fr:Fr} {μ:Gh} {L:List Seg} {e:TypeId} {sz n cap:Nat} {A:Option Addr} {css:List (List Value)} {ch:Seg} (i:Nat) (hi:L[i]? =some ch) (hown:Y0 e sz (.slice A n cap) css ch)
  (h: ∀μ',μ.le μ'→Arr μ' A sz css→WP P N c K B Rk fr μ' (L.set i [])):WP P N c K B Rk fr μ L:=by
 refine WP.upd (Upd.arr i hi hown fun A' cap' μ' hv _ _ hm hA=>Upd.done ?_);injection hv with hv _ _
 subst hv;exact h μ' hm hA
end Go.Proofs.Ytfdjjdhnfaklbaa
