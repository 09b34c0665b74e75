/- The types of the program that the proofs meet, in a table that is checked against it. -/
import Derived.Test.YtmplfjolcdlipaaGreatDoorJNcF
import Derived.Test.YtmplfjolcdlipaaGreatDoorProg
import Derived.KernelRfl
import Derived.Test.YtmplfjolcdlipaaGreatDoorJNcG
set_option linter.unusedVariables false
set_option linter.unusedSimpArgs false
namespace Go.Abs
open Go.Proofs
def tyL : List (Nat × TyI) := [
 (1,⟨1,false,8,[.pv .nilFunc],.other⟩),
 (2,⟨1,false,8,[.pv (.int .i64 0)],.int .i64⟩),
 (3,⟨1,false,8,[.pv (.int .i64 0)],.int .i64⟩),
 (4,⟨1,false,1,[.pv (.bool false)],.bool⟩),
 (5,⟨1,false,1,[.pv (.int .u8 0)],.int .u8⟩),
 (6,⟨1,false,1,[.pv (.int .u8 0)],.int .u8⟩),
 (7,⟨4,true,24,[.pv (.int .i64 0),.pv (.int .i64 0),.pv (.bool false),.pv (.int .u8 0)],.strct [0,1,2,3] [2,3,4,6]⟩),
 (8,⟨4,true,24,[.pv (.int .i64 0),.pv (.int .i64 0),.pv (.bool false),.pv (.int .u8 0)],.strct [0,1,2,3] [2,3,4,6]⟩),
 (9,⟨1,false,16,[.pv (.str .empty)],.str⟩),
 (10,⟨1,false,16,[.pv (.str .empty)],.str⟩),
 (11,⟨1,false,16,[.pv (.str .empty)],.str⟩),
 (12,⟨1,false,8,[.pv (.int .u64 0)],.int .u64⟩),
 (13,⟨2,true,24,[.pv (.str .empty),.pv (.int .u64 0)],.strct [0,1] [9,12]⟩),
 (14,⟨2,true,24,[.pv (.str .empty),.pv (.int .u64 0)],.strct [0,1] [9,12]⟩),
 (15,⟨1,false,8,[.pv .nilPtr],.other⟩),
 (16,⟨1,false,8,[.pv .nilPtr],.other⟩),
 (17,⟨1,false,8,[.pv .nilPtr],.other⟩),
 (18,⟨1,true,8,[.pv .nilPtr],.strct [0] [17]⟩),
 (19,⟨1,true,8,[.pv .nilPtr],.strct [0] [17]⟩),
 (20,⟨1,false,16,[.pv .nilIface],.other⟩),
 (21,⟨1,false,4,[.pv (.int .i32 0)],.int .i32⟩),
 (22,⟨1,false,24,[.nils],.slice 137⟩),
 (23,⟨1,false,24,[.nils],.slice 3⟩),
 (24,⟨1,false,24,[.nils],.slice 74⟩),
 (25,⟨1,false,24,[.nils],.slice 77⟩),
 (26,⟨6,true,112,[.nils,.pv (.int .i64 0),.pv (.int .i64 0),.nils,.nils,.nils],.strct [0,1,2,3,4,5] [22,3,3,23,24,25]⟩),
 (27,⟨6,true,112,[.nils,.pv (.int .i64 0),.pv (.int .i64 0),.nils,.nils,.nils],.strct [0,1,2,3,4,5] [22,3,3,23,24,25]⟩),
 (28,⟨1,false,8,[.pv .nilFunc],.other⟩),
 (29,⟨1,false,8,[.pv .nilFunc],.other⟩),
 (30,⟨1,false,24,[.nils],.slice 67⟩),
 (31,⟨1,false,8,[.pv (.int .i64 0)],.int .i64⟩),
 (33,⟨1,false,8,[.pv .nilFunc],.other⟩),
 (35,⟨1,false,8,[.pv .nilFunc],.other⟩),
 (36,⟨1,false,8,[.pv .nilFunc],.other⟩),
 (37,⟨1,false,8,[.pv .nilFunc],.other⟩),
 (38,⟨1,false,8,[.pv .nilFunc],.other⟩),
 (39,⟨1,false,8,[.pv .nilFunc],.other⟩),
 (40,⟨1,false,8,[.pv .nilFunc],.other⟩),
 (41,⟨1,false,8,[.pv .nilFunc],.other⟩),
 (42,⟨1,false,8,[.pv .nilFunc],.other⟩),
 (43,⟨1,false,8,[.pv .nilFunc],.other⟩),
 (45,⟨1,false,8,[.pv .nilFunc],.other⟩),
 (47,⟨1,false,8,[.pv .nilFunc],.other⟩),
 (48,⟨1,false,8,[.pv .nilFunc],.other⟩),
 (49,⟨1,false,8,[.pv .nilFunc],.other⟩),
 (51,⟨1,false,8,[.pv .nilFunc],.other⟩),
 (52,⟨1,false,8,[.pv .nilFunc],.other⟩),
 (53,⟨1,false,24,[.nils],.slice 5⟩),
 (55,⟨1,false,8,[.pv .nilFunc],.other⟩),
 (57,⟨1,false,8,[.pv .nilFunc],.other⟩),
 (59,⟨1,false,8,[.pv .nilFunc],.other⟩),
 (60,⟨1,false,8,[.pv .nilFunc],.other⟩),
 (61,⟨1,false,8,[.pv .nilFunc],.other⟩),
 (62,⟨1,false,8,[.pv .nilFunc],.other⟩),
 (63,⟨1,false,8,[.pv .nilFunc],.other⟩),
 (64,⟨1,false,8,[.pv .nilFunc],.other⟩),
 (65,⟨1,false,8,[.pv .nilFunc],.other⟩),
 (66,⟨2,true,16,[.pv (.int .i64 0),.pv (.int .i64 0)],.strct [0,1] [3,3]⟩),
 (67,⟨2,true,16,[.pv (.int .i64 0),.pv (.int .i64 0)],.strct [0,1] [3,3]⟩),
 (69,⟨1,false,8,[.pv .nilFunc],.other⟩),
 (70,⟨1,false,8,[.pv .nilFunc],.other⟩),
 (71,⟨1,false,8,[.pv .nilFunc],.other⟩),
 (72,⟨1,false,8,[.pv .nilFunc],.other⟩),
 (73,⟨3,true,24,[.pv (.int .i64 0),.pv (.int .i64 0),.pv (.int .i64 0)],.strct [0,1,2] [3,3,3]⟩),
 (74,⟨3,true,24,[.pv (.int .i64 0),.pv (.int .i64 0),.pv (.int .i64 0)],.strct [0,1,2] [3,3,3]⟩),
 (75,⟨1,false,8,[.pv .nilFunc],.other⟩),
 (76,⟨6,true,48,[.pv (.int .i64 0),.pv (.int .i64 0),.pv (.int .i64 0),.pv (.int .i64 0),.pv (.int .i64 0),.pv (.int .i64 0)],.strct [0,1,2,3,4,5] [3,3,3,3,3,3]⟩),
 (77,⟨6,true,48,[.pv (.int .i64 0),.pv (.int .i64 0),.pv (.int .i64 0),.pv (.int .i64 0),.pv (.int .i64 0),.pv (.int .i64 0)],.strct [0,1,2,3,4,5] [3,3,3,3,3,3]⟩),
 (78,⟨1,false,8,[.pv .nilFunc],.other⟩),
 (79,⟨2,true,32,[.pv (.int .i64 0),.nils],.strct [0,1] [3,23]⟩),
 (80,⟨2,true,32,[.pv (.int .i64 0),.nils],.strct [0,1] [3,23]⟩),
 (81,⟨1,false,8,[.pv .nilFunc],.other⟩),
 (82,⟨1,false,8,[.pv .nilFunc],.other⟩),
 (83,⟨1,false,8,[.pv .nilFunc],.other⟩),
 (84,⟨1,false,8,[.pv .nilFunc],.other⟩),
 (85,⟨1,false,8,[.pv (.int .u64 0)],.int .u64⟩),
 (86,⟨1,false,8,[.pv .nilFunc],.other⟩),
 (87,⟨1,false,8,[.pv .nilFunc],.other⟩),
 (88,⟨1,false,8,[.pv .nilFunc],.other⟩),
 (89,⟨1,false,8,[.pv .nilFunc],.other⟩),
 (90,⟨1,false,24,[.nils],.slice 101⟩),
 (92,⟨1,false,8,[.pv .nilFunc],.other⟩),
 (93,⟨1,false,24,[.nils],.slice 103⟩),
 (95,⟨1,false,8,[.pv .nilFunc],.other⟩),
 (96,⟨1,false,8,[.pv .nilFunc],.other⟩),
 (97,⟨1,false,8,[.pv .nilFunc],.other⟩),
 (98,⟨1,false,8,[.pv .nilFunc],.other⟩),
 (99,⟨1,false,8,[.pv .nilFunc],.other⟩),
 (100,⟨2,true,16,[.pv (.int .i64 0),.pv (.int .i64 0)],.strct [0,1] [3,3]⟩),
 (101,⟨2,true,16,[.pv (.int .i64 0),.pv (.int .i64 0)],.strct [0,1] [3,3]⟩),
 (102,⟨4,true,32,[.pv (.int .i64 0),.pv (.int .i64 0),.pv (.int .i64 0),.pv (.int .i64 0)],.strct [0,2] [67,67]⟩),
 (103,⟨4,true,32,[.pv (.int .i64 0),.pv (.int .i64 0),.pv (.int .i64 0),.pv (.int .i64 0)],.strct [0,2] [67,67]⟩),
 (105,⟨1,false,8,[.pv .nilFunc],.other⟩),
 (106,⟨1,false,8,[.pv .nilFunc],.other⟩),
 (107,⟨1,false,8,[.pv .nilFunc],.other⟩),
 (108,⟨1,false,8,[.pv .nilFunc],.other⟩),
 (109,⟨1,false,8,[.pv .nilFunc],.other⟩),
 (110,⟨1,false,8,[.pv .nilFunc],.other⟩),
 (111,⟨1,false,24,[.nils],.slice 115⟩),
 (113,⟨1,false,8,[.pv .nilFunc],.other⟩),
 (114,⟨8,true,144,[.nils,.pv (.int .i64 0),.pv (.int .i64 0),.nils,.nils,.nils,.pv (.int .i64 0),.nils],.strct [0,6,7] [27,3,30]⟩),
 (115,⟨8,true,144,[.nils,.pv (.int .i64 0),.pv (.int .i64 0),.nils,.nils,.nils,.pv (.int .i64 0),.nils],.strct [0,6,7] [27,3,30]⟩),
 (116,⟨1,false,8,[.pv .nilFunc],.other⟩),
 (117,⟨1,false,8,[.pv .nilFunc],.other⟩),
 (118,⟨1,false,8,[.pv .nilFunc],.other⟩),
 (120,⟨1,false,8,[.pv .nilFunc],.other⟩),
 (121,⟨1,false,8,[.pv .nilFunc],.other⟩),
 (122,⟨1,false,8,[.pv .nilFunc],.other⟩),
 (123,⟨1,false,8,[.pv .nilFunc],.other⟩),
 (124,⟨1,false,8,[.pv .nilFunc],.other⟩),
 (125,⟨1,false,8,[.pv .nilFunc],.other⟩),
 (126,⟨1,false,8,[.pv .nilFunc],.other⟩),
 (127,⟨1,false,8,[.pv .nilMap],.imap⟩),
 (128,⟨2,true,32,[.nils,.pv .nilMap],.strct [0,1] [30,127]⟩),
 (129,⟨2,true,32,[.nils,.pv .nilMap],.strct [0,1] [30,127]⟩),
 (130,⟨1,false,8,[.pv .nilFunc],.other⟩),
 (131,⟨1,false,8,[.pv .nilFunc],.other⟩),
 (132,⟨1,false,8,[.pv .nilFunc],.other⟩),
 (133,⟨1,false,8,[.pv .nilFunc],.other⟩),
 (134,⟨1,false,8,[.pv .nilFunc],.other⟩),
 (135,⟨1,false,8,[.pv .nilFunc],.other⟩),
 (136,⟨4,true,32,[.pv (.int .i64 0),.pv (.int .i64 0),.pv (.int .i64 0),.pv (.int .i64 0)],.strct [0,2] [67,67]⟩),
 (137,⟨4,true,32,[.pv (.int .i64 0),.pv (.int .i64 0),.pv (.int .i64 0),.pv (.int .i64 0)],.strct [0,2] [67,67]⟩),
 (138,⟨1,false,8,[.pv .nilFunc],.other⟩),
 (139,⟨1,false,8,[.pv .nilFunc],.other⟩),
 (140,⟨1,false,8,[.pv .nilFunc],.other⟩),
 (141,⟨1,false,24,[.nils],.slice 9⟩),
 (142,⟨1,false,8,[.pv .nilFunc],.other⟩),
 (143,⟨1,false,8,[.pv .nilFunc],.other⟩),
 (145,⟨1,false,8,[.pv .nilFunc],.other⟩),
 (146,⟨1,false,8,[.pv .nilFunc],.other⟩),
 (147,⟨1,false,8,[.pv .nilFunc],.other⟩),
 (148,⟨1,false,24,[.nils],.slice 23⟩),
 (149,⟨1,false,8,[.pv .nilFunc],.other⟩),
 (150,⟨1,false,8,[.pv .nilFunc],.other⟩),
 (151,⟨1,false,8,[.pv .nilFunc],.other⟩),
 (152,⟨1,false,8,[.pv .nilFunc],.other⟩),
 (153,⟨1,false,8,[.pv .nilFunc],.other⟩),
 (154,⟨1,false,8,[.pv .nilFunc],.other⟩),
 (155,⟨1,false,8,[.pv .nilFunc],.other⟩),
 (156,⟨1,false,8,[.pv .nilFunc],.other⟩),
 (157,⟨1,false,8,[.pv .nilFunc],.other⟩),
 (158,⟨1,false,8,[.pv .nilFunc],.other⟩),
 (159,⟨1,false,8,[.pv .nilFunc],.other⟩),
 (160,⟨1,false,8,[.pv .nilFunc],.other⟩),
 (161,⟨1,false,8,[.pv .nilFunc],.other⟩),
 (162,⟨1,false,8,[.pv .nilFunc],.other⟩),
 (163,⟨1,false,8,[.pv .nilFunc],.other⟩),
 (164,⟨1,false,8,[.pv .nilFunc],.other⟩),
 (166,⟨1,false,8,[.pv .nilFunc],.other⟩),
 (167,⟨1,false,8,[.pv .nilFunc],.other⟩),
 (168,⟨1,false,8,[.pv .nilFunc],.other⟩),
 (169,⟨1,false,8,[.pv .nilFunc],.other⟩),
 (170,⟨4,true,64,[.pv (.str .empty),.pv (.str .empty),.pv (.str .empty),.pv (.str .empty)],.array 9 4⟩),
 (171,⟨1,false,8,[.pv .nilFunc],.other⟩),
 (172,⟨1,false,8,[.pv .nilFunc],.other⟩),
 (173,⟨1,false,8,[.pv .nilFunc],.other⟩),
 (174,⟨1,true,8,[.pv (.int .i64 0)],.strct [0] [3]⟩),
 (175,⟨1,true,8,[.pv (.int .i64 0)],.strct [0] [3]⟩),
 (176,⟨1,true,16,[.pv (.str .empty)],.strct [0] [9]⟩),
 (177,⟨1,true,16,[.pv (.str .empty)],.strct [0] [9]⟩),
 (178,⟨1,false,8,[.pv .nilFunc],.other⟩),
 (179,⟨1,false,8,[.pv .nilFunc],.other⟩),
 (180,⟨1,false,8,[.pv .nilFunc],.other⟩),
 (182,⟨1,false,8,[.pv .nilFunc],.other⟩),
 (183,⟨1,false,8,[.pv .nilFunc],.other⟩),
 (184,⟨1,false,8,[.pv .nilFunc],.other⟩),
 (185,⟨1,false,8,[.pv .nilFunc],.other⟩),
 (186,⟨1,false,8,[.pv .nilFunc],.other⟩),
 (187,⟨1,false,8,[.pv .nilFunc],.other⟩),
 (188,⟨1,false,8,[.pv .nilFunc],.other⟩),
 (189,⟨4,true,32,[.pv (.int .i64 0),.pv (.int .i64 0),.pv (.int .i64 0),.pv (.int .i64 0)],.array 101 2⟩),
 (190,⟨2,true,16,[.pv .nilFunc,.pv .nilFunc],.array 116 2⟩),
 (191,⟨1,false,8,[.pv .nilFunc],.other⟩),
 (192,⟨1,false,8,[.pv .nilFunc],.other⟩),
 (193,⟨1,false,8,[.pv .nilFunc],.other⟩),
 (194,⟨1,false,8,[.pv .nilFunc],.other⟩),
 (195,⟨1,false,8,[.pv .nilPtr],.other⟩),
 (196,⟨2,true,32,[.pv .nilPtr,.nils],.strct [0,1] [195,53]⟩),
 (197,⟨2,true,32,[.pv .nilPtr,.nils],.strct [0,1] [195,53]⟩),
 (198,⟨1,false,8,[.pv .nilFunc],.other⟩),
 (199,⟨1,false,16,[.pv .nilIface],.other⟩),
 (200,⟨1,false,16,[.pv .nilIface],.other⟩),
 (202,⟨1,false,8,[.pv .nilFunc],.other⟩),
 (203,⟨1,false,8,[.pv .nilFunc],.other⟩),
 (204,⟨1,false,8,[.pv .nilFunc],.other⟩),
 (205,⟨1,false,8,[.pv .nilFunc],.other⟩),
 (206,⟨1,false,8,[.pv .nilFunc],.other⟩),
 (207,⟨1,false,8,[.pv .nilFunc],.other⟩),
 (208,⟨1,false,8,[.pv .nilFunc],.other⟩),
 (209,⟨1,false,8,[.pv .nilPtr],.other⟩),
 (210,⟨1,false,8,[.pv .nilFunc],.other⟩),
 (212,⟨1,false,8,[.pv .nilFunc],.other⟩),
 (214,⟨1,false,8,[.pv (.int .u64 0)],.int .u64⟩),
 (215,⟨1,false,8,[.pv .nilFunc],.other⟩),
 (216,⟨1,false,8,[.pv .nilFunc],.other⟩),
 (218,⟨1,false,8,[.pv .nilFunc],.other⟩),
 (219,⟨1,false,8,[.pv .nilPtr],.other⟩),
 (220,⟨1,false,8,[.pv .nilFunc],.other⟩),
 (221,⟨1,false,8,[.pv .nilFunc],.other⟩),
 (223,⟨1,false,8,[.pv .nilFunc],.other⟩),
 (224,⟨1,false,4,[.pv (.int .u32 0)],.int .u32⟩),
 (226,⟨1,false,8,[.pv .nilFunc],.other⟩),
 (228,⟨1,false,8,[.pv .nilFunc],.other⟩),
 (229,⟨1,false,8,[.pv .nilFunc],.other⟩),
 (232,⟨1,false,8,[.pv .nilFunc],.other⟩),
 (233,⟨1,false,8,[.pv .nilFunc],.other⟩),
 (234,⟨1,false,8,[.pv .nilFunc],.other⟩),
 (236,⟨2,true,2,[.pv (.int .u8 0),.pv (.int .u8 0)],.strct [0,1] [5,5]⟩),
 (237,⟨2,true,2,[.pv (.int .u8 0),.pv (.int .u8 0)],.strct [0,1] [5,5]⟩),
 (246,⟨1,false,1,[.pv (.int .u8 0)],.int .u8⟩),
 (247,⟨1,false,1,[.pv (.int .u8 0)],.int .u8⟩),
 (248,⟨1,false,8,[.pv .nilFunc],.other⟩),
 (249,⟨1,false,4,[.pv (.int .i32 0)],.int .i32⟩),
 (250,⟨1,false,4,[.pv (.int .i32 0)],.int .i32⟩)]
def T : Nat -> Option TyI := tab tyL
theorem hT : TabOK Tryz.prog T := tabOK_of (by kernel_rfl)
theorem hM : Tryz.prog.follows .mixedOrders = true := by kernel_rfl
theorem und127 : Tryz.prog.underlying 127 = some (.map 3 67) := by kernel_rfl
theorem und3 : Tryz.prog.underlying 3 = some (.int .i64) := by kernel_rfl
end Go.Abs
namespace Go.Abs
open Go.Proofs
set_option linter.unusedVariables false
theorem stp {G' G : Prop} (y : G') (h : G' -> G := by intro x; first | exact AL_step hT rfl x | exact AL_nil_then x | exact AW_seq x | exact AW_region x | exact AW_block x | exact AW_ret x | exact AW_skip x | exact AW_exit x | exact AW_label x | exact then_normal x | exact then_exit x | exact then_ret x | exact inblk_here x | exact inblk_normal x | exact inblk_ret x | exact inblk_other rfl x | exact AL_nil x | exact DG_start x | exact AW_scope x | exact nogo_normal x | exact nogo_ret x | exact nogo_exit x | exact AW_cond_t rfl x | exact AW_cond_f rfl x | (refine AL_do2 rfl ?_; first | exact ⟨_,op_add rfl rfl rfl rfl (by omega),x⟩ | exact ⟨_,op_sub rfl rfl rfl rfl (by omega),x⟩ | exact ⟨_,op_len_sl hT rfl rfl rfl rfl rfl (len_map _ _),x⟩ | exact ⟨_,op_indexAddr_sl hT rfl rfl rfl rfl rfl rfl rfl (by omega) (by assumption) rfl rfl,x⟩ | exact ⟨_,op_mul rfl rfl rfl rfl (by assumption),x⟩ | exact ⟨_,op_min2 rfl rfl rfl rfl,x⟩ | exact ⟨_,op_max2 rfl rfl rfl rfl,x⟩ | exact ⟨_,op_append hT rfl rfl rfl rfl rfl rfl rfl rfl rfl rfl rfl (by intro y hy; (first | (simp only [List.mem_cons,List.not_mem_nil,or_false] at hy; subst hy; rfl) | (simp only [List.mem_cons,List.not_mem_nil,or_false] at hy; rcases hy with hy | hy <;> subst hy <;> rfl) | (obtain ⟨_,_,rfl⟩ := List.mem_map.1 hy; rfl) | (cases hy))) (by simp only [List.length_map,List.length_take,List.length_cons,List.length_nil,List.length_append]; omega) rfl,x⟩ | exact ⟨_,op_mkmeth rfl rfl rfl,x⟩ | exact ⟨_,op_build_arr hT rfl rfl rfl rfl rfl rfl rfl,x⟩ | exact ⟨_,op_index_arr hT rfl rfl rfl rfl rfl rfl rfl rfl rfl (by omega) (by omega) rfl,x⟩ | exact ⟨_,op_indexAddr_box hT rfl rfl rfl rfl rfl rfl rfl (by omega) (by omega),x⟩ | exact ⟨_,op_neg rfl rfl rfl (by omega),x⟩ | exact ⟨_,op_and rfl rfl rfl rfl,x⟩ | exact ⟨_,op_shl rfl rfl rfl rfl (by omega),x⟩ | exact ⟨_,op_shr rfl rfl rfl rfl (by omega),x⟩ | exact ⟨_,op_conv hT rfl rfl rfl rfl rfl rfl rfl,x⟩ | exact ⟨_,op_bin (k := .u64) rfl rfl rfl rfl rfl,x⟩)) : G := h y
theorem sle {G' G : Prop} (y : G') (h : G' -> G := by intro x; first | exact ⟨rfl,rfl,x⟩ | exact ⟨rfl,by decide,rfl,x⟩) : G := h y
theorem sdr {G' G : Prop} (y : G') (h : G' -> G := by intro x; first | exact DG_step hT rfl x | exact DG_next (D_add rfl rfl rfl rfl rfl (by omega)) x | exact DG_next (D_sub rfl rfl rfl rfl rfl (by omega)) x | exact DG_next (D_len hT rfl rfl rfl rfl rfl rfl (len_map _ _)) x | exact DG_next (D_indexAddr hT rfl rfl rfl rfl rfl rfl rfl rfl (by omega) (by assumption) rfl rfl) x | exact DG_next (D_mul rfl rfl rfl rfl rfl (by assumption)) x | exact DG_next (D_min2 rfl rfl rfl rfl rfl) x | exact DG_next (D_max2 rfl rfl rfl rfl rfl) x | exact DG_next (D_buildSlice hT rfl rfl rfl rfl rfl rfl rfl rfl rfl rfl) x | exact DG_next (D_append hT rfl rfl rfl rfl rfl rfl rfl rfl rfl rfl rfl rfl (by intro y hy; (first | (simp only [List.mem_cons,List.not_mem_nil,or_false] at hy; subst hy; rfl) | (simp only [List.mem_cons,List.not_mem_nil,or_false] at hy; rcases hy with hy | hy <;> subst hy <;> rfl) | (obtain ⟨_,_,rfl⟩ := List.mem_map.1 hy; rfl) | (cases hy))) (by simp only [List.length_map,List.length_take,List.length_cons,List.length_nil,List.length_append]; omega) rfl) x | exact DG_next (D_conv hT rfl rfl rfl rfl rfl rfl rfl rfl) x) : G := h y
end Go.Abs
namespace Go.Abs
open Go.Proofs
set_option linter.unusedVariables false
def nN (f : Nat -> Option ASt) : Nat -> Option ASt
 | 0 => f 0
 | k + 1 => f (k + 1)
def nL {α : Type} (f : List α -> Option ASt) : List α -> Option ASt
 | [] => f []
 | p :: r => f (p :: r)
def nO {α : Type} (f : Option α -> Option ASt) : Option α -> Option ASt
 | some y => f (some y)
 | none => f none
def nE {α : Type} (f : List (Nat × Option α) -> Option ASt) : List (Nat × Option α) -> Option ASt
 | [] => f []
 | (d,x) :: r => nO (fun x => nL (fun r => f ((d,x) :: r)) r) x
def norm1 : ASt -> Option ASt
 | ⟨e,o,n⟩ => nN (fun n => nE (fun o => nE (fun e => some ⟨e,o,n⟩) e) o) n
theorem nN_id (f : Nat -> Option ASt) (n : Nat) : nN f n = f n := by cases n <;> rfl
theorem nL_id {α : Type} (f : List α -> Option ASt) (l : List α) : nL f l = f l := by cases l <;> rfl
theorem nO_id {α : Type} (f : Option α -> Option ASt) (o : Option α) : nO f o = f o := by cases o <;> rfl
theorem nE_id {α : Type} (f : List (Nat × Option α) -> Option ASt) (l : List (Nat × Option α)) : nE f l = f l:= by
 cases l with
 | nil => rfl
 | cons p r => simp only [nE,nO_id,nL_id]
theorem norm1_id (s : ASt) : norm1 s = some s := by simp only [norm1,nN_id,nE_id]
section
variable {P : Program} {T : Nat -> Option TyI} {nt : Nat} {s s2 : ASt} {o : Oper} {ops : Array Oper} {rest : List Oper} {Q : Exit -> ASt -> Prop}
theorem nrmA (h : norm1 s = some s2) (x : AL P nt ops rest Q s2) : AL P nt ops rest Q s:= by
 rw [norm1_id] at h; cases h; exact x
theorem nrmD {id : Nat} {opl : List Oper} {s0 : ASt} {k : Nat} {l : List DEnt} (h : norm1 s = some s2) (x : DG P nt id opl Q s0 k rest s2 l) : DG P nt id opl Q s0 k rest s l:= by
 rw [norm1_id] at h; cases h; exact x
theorem AL_stepN (hT : TabOK P T) (hs : (stepG T nt ops s o).bind norm1 = some s2) (h : AL P nt ops rest Q s2) : AL P nt ops (o :: rest) Q s:= by
 cases hg : stepG T nt ops s o with
 | none => rw [hg] at hs; cases hs
 | some s1 =>
  rw [hg] at hs
  have : some s1 = some s2 := (norm1_id s1).symm.trans hs
  cases this
  exact AL_step hT hg h
theorem AL_id (h : AL P nt ops rest Q s) : AL P nt ops rest Q s := h
theorem AL_glit {j d : Nat} {b c : Bool} (hg : o.guard = some (j,b)) (hj : (ops[j]?).bind (·.dst) = some d) (hd : s.get d = some (.pv (.bool c))) (hc : c = true \/ c = false) (h : AL P nt ops (o :: rest) Q s) : AL P nt ops (o :: rest) Q s := h
theorem AL_le {s' : ASt} (hle : Le s s') (h : AL P nt ops rest Q s') : AL P nt ops rest Q s := fun ro W0 D0 D φ a w hr hI => by
 obtain ⟨φ',hI'⟩ := hle.inv hI
 exact h ro W0 D0 D φ' a w hr hI'
end
theorem stq {G' G : Prop} (y : G') (h : G' -> G := by intro x; first | exact AL_stepN hT rfl x | exact AL_nil_then x | exact AW_seq x | exact AW_region x | exact AW_block x | exact AW_ret x | exact AW_skip x | exact AW_exit x | exact AW_label x | exact then_normal x | exact then_exit x | exact then_ret x | exact inblk_here x | exact inblk_normal x | exact inblk_ret x | exact inblk_other rfl x | exact AL_nil x | exact DG_start x | exact AW_scope x | exact nogo_normal x | exact nogo_ret x | exact nogo_exit x | exact AW_cond_t rfl x | exact AW_cond_f rfl x | (refine AL_do2 rfl ?_; first | exact ⟨_,op_add rfl rfl rfl rfl (by omega),nrmA rfl x⟩ | exact ⟨_,op_sub rfl rfl rfl rfl (by omega),nrmA rfl x⟩ | exact ⟨_,op_len_sl hT rfl rfl rfl rfl rfl (len_map _ _),nrmA rfl x⟩ | exact ⟨_,op_indexAddr_sl hT rfl rfl rfl rfl rfl rfl rfl (by omega) (by assumption) rfl rfl,nrmA rfl x⟩ | exact ⟨_,op_mul rfl rfl rfl rfl (by assumption),nrmA rfl x⟩ | exact ⟨_,op_min2 rfl rfl rfl rfl,nrmA rfl x⟩ | exact ⟨_,op_max2 rfl rfl rfl rfl,nrmA rfl x⟩ | exact ⟨_,op_append hT rfl rfl rfl rfl rfl rfl rfl rfl rfl rfl rfl (by intro y hy; (first | (simp only [List.mem_cons,List.not_mem_nil,or_false] at hy; subst hy; rfl) | (simp only [List.mem_cons,List.not_mem_nil,or_false] at hy; rcases hy with hy | hy <;> subst hy <;> rfl) | (obtain ⟨_,_,rfl⟩ := List.mem_map.1 hy; rfl) | (cases hy))) (by simp only [List.length_map,List.length_take,List.length_cons,List.length_nil,List.length_append]; omega) rfl,nrmA rfl x⟩ | exact ⟨_,op_mkmeth rfl rfl rfl,nrmA rfl x⟩ | exact ⟨_,op_build_arr hT rfl rfl rfl rfl rfl rfl rfl,nrmA rfl x⟩ | exact ⟨_,op_index_arr hT rfl rfl rfl rfl rfl rfl rfl rfl rfl (by omega) (by omega) rfl,nrmA rfl x⟩ | exact ⟨_,op_indexAddr_box hT rfl rfl rfl rfl rfl rfl rfl (by omega) (by omega),nrmA rfl x⟩ | exact ⟨_,op_neg rfl rfl rfl (by omega),nrmA rfl x⟩ | exact ⟨_,op_and rfl rfl rfl rfl,nrmA rfl x⟩ | exact ⟨_,op_shl rfl rfl rfl rfl (by omega),nrmA rfl x⟩ | exact ⟨_,op_shr rfl rfl rfl rfl (by omega),nrmA rfl x⟩ | exact ⟨_,op_conv hT rfl rfl rfl rfl rfl rfl rfl,nrmA rfl x⟩ | exact ⟨_,op_bin (k := .u64) rfl rfl rfl rfl rfl,nrmA rfl x⟩)) : G := h y
theorem sty {G' G : Prop} (y : G') (h : G' -> G := by intro x; refine AL_do2 rfl ?_; first | exact ⟨_,op_strcat rfl rfl rfl rfl (by omega),nrmA rfl x⟩ | exact ⟨_,op_len_str hT rfl rfl rfl rfl rfl,nrmA rfl x⟩ | exact ⟨_,op_quo rfl rfl rfl rfl (by decide),nrmA rfl x⟩ | exact ⟨_,op_rem rfl rfl rfl rfl (by decide),nrmA rfl x⟩ | exact ⟨_,op_index_arrP hT rfl rfl rfl rfl rfl rfl rfl rfl rfl (by omega) (by omega) rfl,nrmA rfl x⟩ | exact ⟨_,op_mkiface hT rfl rfl rfl rfl rfl,nrmA rfl x⟩) : G := h y
theorem sdq {G' G : Prop} (y : G') (h : G' -> G := by intro x; first | exact DG_step hT rfl (nrmD rfl x) | exact DG_next (D_add rfl rfl rfl rfl rfl (by omega)) (nrmD rfl x) | exact DG_next (D_sub rfl rfl rfl rfl rfl (by omega)) (nrmD rfl x) | exact DG_next (D_len hT rfl rfl rfl rfl rfl rfl (len_map _ _)) (nrmD rfl x) | exact DG_next (D_indexAddr hT rfl rfl rfl rfl rfl rfl rfl rfl (by omega) (by assumption) rfl rfl) (nrmD rfl x) | exact DG_next (D_mul rfl rfl rfl rfl rfl (by assumption)) (nrmD rfl x) | exact DG_next (D_min2 rfl rfl rfl rfl rfl) (nrmD rfl x) | exact DG_next (D_max2 rfl rfl rfl rfl rfl) (nrmD rfl x) | exact DG_next (D_buildSlice hT rfl rfl rfl rfl rfl rfl rfl rfl rfl rfl) (nrmD rfl x) | exact DG_next (D_append hT rfl rfl rfl rfl rfl rfl rfl rfl rfl rfl rfl rfl (by intro y hy; (first | (simp only [List.mem_cons,List.not_mem_nil,or_false] at hy; subst hy; rfl) | (simp only [List.mem_cons,List.not_mem_nil,or_false] at hy; rcases hy with hy | hy <;> subst hy <;> rfl) | (obtain ⟨_,_,rfl⟩ := List.mem_map.1 hy; rfl) | (cases hy))) (by simp only [List.length_map,List.length_take,List.length_cons,List.length_nil,List.length_append]; omega) rfl) (nrmD rfl x) | exact DG_next (D_conv hT rfl rfl rfl rfl rfl rfl rfl rfl) (nrmD rfl x)) : G := h y
end Go.Abs
