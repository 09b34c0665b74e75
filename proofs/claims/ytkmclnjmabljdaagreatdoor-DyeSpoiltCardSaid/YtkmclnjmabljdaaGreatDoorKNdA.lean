/- The types of the program that the proofs meet, in a table that is checked against it. -/
import Derived.Test.YtkmclnjmabljdaaGreatDoorKNcF
import Derived.Test.YtkmclnjmabljdaaGreatDoorProg
import Derived.KernelRfl
import Derived.Test.YtkmclnjmabljdaaGreatDoorKNcG
set_option linter.unusedVariables false
set_option linter.unusedSimpArgs false
namespace Go.Abs
open Go.Proofs
def tyL : List (Nat × TyI) := [
 (3,⟨1,false,8,[.pv (.int .i64 0)],.int .i64⟩),
 (4,⟨1,false,1,[.pv (.bool false)],.bool⟩),
 (5,⟨1,false,1,[.pv (.int .u8 0)],.int .u8⟩),
 (9,⟨1,false,16,[.pv (.str .empty)],.str⟩),
 (12,⟨1,false,8,[.pv (.int .u64 0)],.int .u64⟩),
 (20,⟨1,false,16,[.pv .nilIface],.other⟩),
 (21,⟨1,false,4,[.pv (.int .i32 0)],.int .i32⟩),
 (22,⟨1,false,24,[.nils],.slice 90⟩),
 (24,⟨1,true,24,[.nils],.strct [0] [22]⟩),
 (25,⟨1,false,24,[.nils],.slice 154⟩),
 (28,⟨1,false,24,[.nils],.slice 37⟩),
 (29,⟨1,false,8,[.pv (.int .i64 0)],.int .i64⟩),
 (35,⟨1,false,24,[.nils],.slice 49⟩),
 (37,⟨2,true,16,[.pv (.int .i64 0),.pv (.int .i64 0)],.strct [0,1] [3,3]⟩),
 (39,⟨1,false,24,[.nils],.slice 78⟩),
 (47,⟨1,false,24,[.nils],.slice 3⟩),
 (49,⟨1,true,24,[.nils],.strct [0] [47]⟩),
 (58,⟨5,true,72,[.nils,.pv (.int .i64 0),.pv (.int .i64 0),.nils,.pv (.int .i64 0)],.strct [0,1,3,4] [35,37,28,3]⟩),
 (59,⟨1,false,24,[.nils],.slice 95⟩),
 (67,⟨4,true,48,[.pv (.int .i64 0),.pv (.int .i64 0),.pv (.int .i64 0),.nils],.strct [0,2,3] [37,3,28]⟩),
 (78,⟨1,false,8,[.pv (.int .i64 0)],.int .i64⟩),
 (90,⟨2,true,32,[.nils,.pv (.int .i64 0)],.strct [0,1] [28,3]⟩),
 (95,⟨3,true,40,[.nils,.pv (.int .i64 0),.pv (.int .i64 0)],.strct [0,1,2] [25,3,3]⟩),
 (112,⟨1,false,24,[.nils],.slice 47⟩),
 (114,⟨2,true,48,[.nils,.nils],.strct [0,1] [112,47]⟩),
 (140,⟨1,false,24,[.nils],.slice 5⟩),
 (149,⟨2,true,48,[.nils,.nils],.strct [0,1] [24,49]⟩),
 (154,⟨4,true,32,[.pv (.int .i64 0),.pv (.int .i64 0),.pv (.int .i64 0),.pv (.int .i64 0)],.strct [0,1,2] [3,3,37]⟩),
 (175,⟨1,false,8,[.pv (.int .u64 0)],.int .u64⟩),
 (181,⟨1,true,24,[.nils],.strct [0] [47]⟩),
 (189,⟨2,true,32,[.nils,.pv (.int .i64 0)],.strct [0,1] [47,3]⟩),
 (192,⟨1,false,8,[.pv .nilMap],.imap⟩),
 (197,⟨1,true,16,[.pv (.str .empty)],.strct [0] [9]⟩),
 (201,⟨1,false,24,[.nils],.slice 9⟩),
 (215,⟨1,false,24,[.nils],.slice 4⟩),
 (222,⟨1,false,4,[.pv (.int .u32 0)],.int .u32⟩),
 (224,⟨1,false,8,[.pv (.int .u64 0)],.int .u64⟩),
 (237,⟨2,true,16,[.pv (.int .i64 0),.pv (.int .i64 0)],.strct [0,1] [3,3]⟩),
 (239,⟨2,true,32,[.nils,.pv (.int .i64 0)],.strct [0] [90]⟩),
 (241,⟨3,true,40,[.nils,.pv (.int .i64 0),.pv (.int .i64 0)],.strct [0] [95]⟩),
 (243,⟨4,true,32,[.pv (.int .i64 0),.pv (.int .i64 0),.pv (.int .i64 0),.pv (.int .i64 0)],.strct [0] [154]⟩),
 (263,⟨1,false,16,[.pv .nilIface],.other⟩),
 (272,⟨1,false,16,[.pv .nilIface],.other⟩),
 (1,⟨1,false,8,[.pv .nilFunc],.other⟩),
 (26,⟨1,false,8,[.pv .nilFunc],.other⟩),
 (27,⟨1,false,8,[.pv .nilFunc],.other⟩),
 (31,⟨1,false,8,[.pv .nilFunc],.other⟩),
 (32,⟨1,false,8,[.pv .nilFunc],.other⟩),
 (33,⟨1,false,8,[.pv .nilFunc],.other⟩),
 (34,⟨1,false,8,[.pv .nilFunc],.other⟩),
 (38,⟨1,false,8,[.pv .nilFunc],.other⟩),
 (41,⟨1,false,8,[.pv .nilFunc],.other⟩),
 (42,⟨1,false,8,[.pv .nilFunc],.other⟩),
 (43,⟨1,false,8,[.pv .nilFunc],.other⟩),
 (44,⟨1,false,8,[.pv .nilFunc],.other⟩),
 (45,⟨1,false,8,[.pv .nilFunc],.other⟩),
 (46,⟨1,false,8,[.pv .nilFunc],.other⟩),
 (51,⟨1,false,8,[.pv .nilFunc],.other⟩),
 (52,⟨1,false,8,[.pv .nilFunc],.other⟩),
 (53,⟨1,false,8,[.pv .nilFunc],.other⟩),
 (54,⟨1,false,8,[.pv .nilFunc],.other⟩),
 (55,⟨1,false,8,[.pv .nilFunc],.other⟩),
 (56,⟨1,false,8,[.pv .nilFunc],.other⟩),
 (60,⟨1,false,8,[.pv .nilFunc],.other⟩),
 (61,⟨1,false,8,[.pv .nilFunc],.other⟩),
 (63,⟨1,false,8,[.pv .nilFunc],.other⟩),
 (64,⟨1,false,8,[.pv .nilFunc],.other⟩),
 (65,⟨1,false,8,[.pv .nilFunc],.other⟩),
 (68,⟨1,false,8,[.pv .nilFunc],.other⟩),
 (69,⟨1,false,8,[.pv .nilFunc],.other⟩),
 (71,⟨1,false,8,[.pv .nilFunc],.other⟩),
 (73,⟨1,false,8,[.pv .nilFunc],.other⟩),
 (74,⟨1,false,8,[.pv .nilFunc],.other⟩),
 (76,⟨1,false,8,[.pv .nilFunc],.other⟩),
 (77,⟨1,false,8,[.pv .nilFunc],.other⟩),
 (80,⟨1,false,8,[.pv .nilFunc],.other⟩),
 (81,⟨1,false,8,[.pv .nilFunc],.other⟩),
 (82,⟨1,false,8,[.pv .nilFunc],.other⟩),
 (83,⟨1,false,8,[.pv .nilFunc],.other⟩),
 (84,⟨1,false,8,[.pv .nilFunc],.other⟩),
 (86,⟨1,false,8,[.pv .nilFunc],.other⟩),
 (87,⟨1,false,8,[.pv .nilFunc],.other⟩),
 (88,⟨1,false,8,[.pv .nilFunc],.other⟩),
 (91,⟨1,false,8,[.pv .nilFunc],.other⟩),
 (92,⟨1,false,8,[.pv .nilFunc],.other⟩),
 (93,⟨1,false,8,[.pv .nilFunc],.other⟩),
 (96,⟨1,false,8,[.pv .nilFunc],.other⟩),
 (98,⟨1,false,8,[.pv .nilFunc],.other⟩),
 (99,⟨1,false,8,[.pv .nilFunc],.other⟩),
 (100,⟨1,false,8,[.pv .nilFunc],.other⟩),
 (101,⟨1,false,8,[.pv .nilFunc],.other⟩),
 (102,⟨1,false,8,[.pv .nilFunc],.other⟩),
 (103,⟨1,false,8,[.pv .nilFunc],.other⟩),
 (104,⟨1,false,8,[.pv .nilFunc],.other⟩),
 (106,⟨1,false,8,[.pv .nilFunc],.other⟩),
 (107,⟨1,false,8,[.pv .nilFunc],.other⟩),
 (108,⟨1,false,8,[.pv .nilFunc],.other⟩),
 (109,⟨1,false,8,[.pv .nilFunc],.other⟩),
 (110,⟨1,false,8,[.pv .nilFunc],.other⟩),
 (111,⟨1,false,8,[.pv .nilFunc],.other⟩),
 (115,⟨1,false,8,[.pv .nilFunc],.other⟩),
 (116,⟨1,false,8,[.pv .nilFunc],.other⟩),
 (117,⟨1,false,8,[.pv .nilFunc],.other⟩),
 (118,⟨1,false,8,[.pv .nilFunc],.other⟩),
 (119,⟨1,false,8,[.pv .nilFunc],.other⟩),
 (120,⟨1,false,8,[.pv .nilFunc],.other⟩),
 (121,⟨1,false,8,[.pv .nilFunc],.other⟩),
 (122,⟨1,false,8,[.pv .nilFunc],.other⟩),
 (123,⟨1,false,8,[.pv .nilFunc],.other⟩),
 (124,⟨1,false,8,[.pv .nilFunc],.other⟩),
 (125,⟨1,false,8,[.pv .nilFunc],.other⟩),
 (126,⟨1,false,8,[.pv .nilFunc],.other⟩),
 (127,⟨1,false,8,[.pv .nilFunc],.other⟩),
 (129,⟨1,false,8,[.pv .nilFunc],.other⟩),
 (130,⟨1,false,8,[.pv .nilFunc],.other⟩),
 (132,⟨1,false,8,[.pv .nilFunc],.other⟩),
 (133,⟨1,false,8,[.pv .nilFunc],.other⟩),
 (134,⟨1,false,8,[.pv .nilFunc],.other⟩),
 (135,⟨1,false,8,[.pv .nilFunc],.other⟩),
 (136,⟨1,false,8,[.pv .nilFunc],.other⟩),
 (138,⟨1,false,8,[.pv .nilFunc],.other⟩),
 (139,⟨1,false,8,[.pv .nilFunc],.other⟩),
 (141,⟨1,false,8,[.pv .nilFunc],.other⟩),
 (142,⟨1,false,8,[.pv .nilFunc],.other⟩),
 (143,⟨1,false,8,[.pv .nilFunc],.other⟩),
 (144,⟨1,false,8,[.pv .nilFunc],.other⟩),
 (145,⟨1,false,8,[.pv .nilFunc],.other⟩),
 (146,⟨1,false,8,[.pv .nilFunc],.other⟩),
 (147,⟨1,false,8,[.pv .nilFunc],.other⟩),
 (150,⟨1,false,8,[.pv .nilFunc],.other⟩),
 (151,⟨1,false,8,[.pv .nilFunc],.other⟩),
 (152,⟨1,false,8,[.pv .nilFunc],.other⟩),
 (155,⟨1,false,8,[.pv .nilFunc],.other⟩),
 (156,⟨1,false,8,[.pv .nilFunc],.other⟩),
 (157,⟨1,false,8,[.pv .nilFunc],.other⟩),
 (158,⟨1,false,8,[.pv .nilFunc],.other⟩),
 (159,⟨1,false,8,[.pv .nilFunc],.other⟩),
 (160,⟨1,false,8,[.pv .nilFunc],.other⟩),
 (161,⟨1,false,8,[.pv .nilFunc],.other⟩),
 (162,⟨1,false,8,[.pv .nilFunc],.other⟩),
 (163,⟨1,false,8,[.pv .nilFunc],.other⟩),
 (164,⟨1,false,8,[.pv .nilFunc],.other⟩),
 (165,⟨1,false,8,[.pv .nilFunc],.other⟩),
 (166,⟨1,false,8,[.pv .nilFunc],.other⟩),
 (167,⟨1,false,8,[.pv .nilFunc],.other⟩),
 (168,⟨1,false,8,[.pv .nilFunc],.other⟩),
 (169,⟨1,false,8,[.pv .nilFunc],.other⟩),
 (170,⟨1,false,8,[.pv .nilFunc],.other⟩),
 (172,⟨1,false,8,[.pv .nilFunc],.other⟩),
 (173,⟨1,false,8,[.pv .nilFunc],.other⟩),
 (174,⟨1,false,8,[.pv .nilFunc],.other⟩),
 (176,⟨1,false,8,[.pv .nilFunc],.other⟩),
 (177,⟨1,false,8,[.pv .nilFunc],.other⟩),
 (178,⟨1,false,8,[.pv .nilFunc],.other⟩),
 (179,⟨1,false,8,[.pv .nilFunc],.other⟩),
 (183,⟨1,false,8,[.pv .nilFunc],.other⟩),
 (184,⟨1,false,8,[.pv .nilFunc],.other⟩),
 (185,⟨1,false,8,[.pv .nilFunc],.other⟩),
 (186,⟨1,false,8,[.pv .nilFunc],.other⟩),
 (187,⟨1,false,8,[.pv .nilFunc],.other⟩),
 (190,⟨1,false,8,[.pv .nilFunc],.other⟩),
 (191,⟨1,false,8,[.pv .nilFunc],.other⟩),
 (193,⟨1,false,8,[.pv .nilFunc],.other⟩),
 (194,⟨1,false,8,[.pv .nilFunc],.other⟩),
 (195,⟨1,false,8,[.pv .nilFunc],.other⟩),
 (199,⟨1,false,8,[.pv .nilFunc],.other⟩),
 (200,⟨1,false,8,[.pv .nilFunc],.other⟩),
 (202,⟨1,false,8,[.pv .nilFunc],.other⟩),
 (203,⟨1,false,8,[.pv .nilFunc],.other⟩),
 (204,⟨1,false,8,[.pv .nilFunc],.other⟩),
 (205,⟨1,false,8,[.pv .nilFunc],.other⟩),
 (206,⟨1,false,8,[.pv .nilFunc],.other⟩),
 (207,⟨1,false,8,[.pv .nilFunc],.other⟩),
 (208,⟨1,false,8,[.pv .nilFunc],.other⟩),
 (209,⟨1,false,8,[.pv .nilFunc],.other⟩),
 (211,⟨1,false,8,[.pv .nilFunc],.other⟩),
 (210,⟨2,true,16,[.pv (.int .i64 0),.pv (.int .i64 0)],.array 3 2⟩),
 (264,⟨4,true,64,[.pv (.str .empty),.pv (.str .empty),.pv (.str .empty),.pv (.str .empty)],.array 9 4⟩),
 (212,⟨2,true,16,[.pv .nilFunc,.pv .nilFunc],.array 211 2⟩),
 (213,⟨1,false,8,[.pv .nilFunc],.other⟩),
 (214,⟨1,false,8,[.pv .nilFunc],.other⟩),
 (216,⟨1,false,8,[.pv .nilFunc],.other⟩),
 (217,⟨1,false,8,[.pv .nilFunc],.other⟩),
 (218,⟨1,false,8,[.pv .nilFunc],.other⟩),
 (219,⟨1,false,8,[.pv .nilFunc],.other⟩),
 (220,⟨1,false,8,[.pv .nilFunc],.other⟩),
 (221,⟨1,false,8,[.pv .nilFunc],.other⟩),
 (223,⟨1,false,8,[.pv .nilFunc],.other⟩),
 (225,⟨1,false,8,[.pv .nilFunc],.other⟩),
 (226,⟨1,false,8,[.pv .nilFunc],.other⟩),
 (227,⟨1,false,8,[.pv .nilFunc],.other⟩),
 (228,⟨1,false,8,[.pv .nilFunc],.other⟩),
 (229,⟨1,false,8,[.pv .nilFunc],.other⟩),
 (230,⟨1,false,8,[.pv .nilFunc],.other⟩),
 (231,⟨1,false,8,[.pv .nilFunc],.other⟩),
 (232,⟨1,false,8,[.pv .nilFunc],.other⟩),
 (233,⟨1,false,8,[.pv .nilFunc],.other⟩),
 (234,⟨1,false,8,[.pv .nilFunc],.other⟩),
 (235,⟨1,false,8,[.pv .nilFunc],.other⟩),
 (244,⟨1,false,8,[.pv .nilFunc],.other⟩),
 (246,⟨1,false,8,[.pv .nilFunc],.other⟩),
 (247,⟨1,false,8,[.pv .nilFunc],.other⟩),
 (248,⟨1,false,8,[.pv .nilFunc],.other⟩),
 (249,⟨1,false,8,[.pv .nilFunc],.other⟩),
 (250,⟨1,false,8,[.pv .nilFunc],.other⟩),
 (251,⟨1,false,8,[.pv .nilFunc],.other⟩),
 (252,⟨1,false,8,[.pv .nilFunc],.other⟩),
 (253,⟨1,false,8,[.pv .nilFunc],.other⟩),
 (254,⟨1,false,8,[.pv .nilFunc],.other⟩),
 (255,⟨1,false,8,[.pv .nilFunc],.other⟩),
 (256,⟨1,false,8,[.pv .nilFunc],.other⟩),
 (258,⟨1,false,8,[.pv .nilFunc],.other⟩),
 (259,⟨1,false,8,[.pv .nilFunc],.other⟩),
 (260,⟨1,false,8,[.pv .nilFunc],.other⟩),
 (261,⟨1,false,8,[.pv .nilFunc],.other⟩),
 (265,⟨1,false,8,[.pv .nilFunc],.other⟩),
 (266,⟨1,false,8,[.pv .nilFunc],.other⟩)]
def T : Nat -> Option TyI := tab tyL
theorem hT : TabOK Tryz.prog T := tabOK_of (by kernel_rfl)
theorem hM : Tryz.prog.follows .mixedOrders = true := by kernel_rfl
theorem und192 : Tryz.prog.underlying 192 = some (.map 3 4) := by kernel_rfl
theorem und3 : Tryz.prog.underlying 3 = some (.int .i64) := by kernel_rfl
end Go.Abs
namespace Go.Abs
open Go.Proofs
set_option linter.unusedVariables false
theorem stp {G' G : Prop} (y : G') (h : G' -> G := by intro x; first | exact AL_step hT rfl x | exact AL_nil_then x | exact AW_seq x | exact AW_region x | exact AW_block x | exact AW_ret x | exact AW_skip x | exact AW_exit x | exact AW_label x | exact then_normal x | exact then_exit x | exact then_ret x | exact inblk_here x | exact inblk_normal x | exact inblk_ret x | exact inblk_other rfl x | exact AL_nil x | exact DG_start x | exact AW_scope x | exact nogo_normal x | exact nogo_ret x | exact nogo_exit x | exact AW_cond_t rfl x | exact AW_cond_f rfl x | (refine AL_do2 rfl ?_; first | exact ⟨_,op_add rfl rfl rfl rfl (by omega),x⟩ | exact ⟨_,op_sub rfl rfl rfl rfl (by omega),x⟩ | exact ⟨_,op_len_sl hT rfl rfl rfl rfl rfl (len_map _ _),x⟩ | exact ⟨_,op_indexAddr_sl hT rfl rfl rfl rfl rfl rfl rfl (by omega) (by assumption) rfl rfl,x⟩ | exact ⟨_,op_mul rfl rfl rfl rfl (by assumption),x⟩ | exact ⟨_,op_min2 rfl rfl rfl rfl,x⟩ | exact ⟨_,op_max2 rfl rfl rfl rfl,x⟩ | exact ⟨_,op_append hT rfl rfl rfl rfl rfl rfl rfl rfl rfl rfl rfl (by intro y hy; (first | (simp only [List.mem_cons,List.not_mem_nil,or_false] at hy; subst hy; rfl) | (simp only [List.mem_cons,List.not_mem_nil,or_false] at hy; rcases hy with hy | hy <;> subst hy <;> rfl) | (obtain ⟨_,_,rfl⟩ := List.mem_map.1 hy; rfl) | (cases hy))) (by simp only [List.length_map,List.length_take,List.length_cons,List.length_nil,List.length_append]; omega) rfl,x⟩ | exact ⟨_,op_mkmeth rfl rfl rfl,x⟩ | exact ⟨_,op_build_arr hT rfl rfl rfl rfl rfl rfl rfl,x⟩ | exact ⟨_,op_index_arr hT rfl rfl rfl rfl rfl rfl rfl rfl rfl (by omega) (by omega) rfl,x⟩ | exact ⟨_,op_indexAddr_box hT rfl rfl rfl rfl rfl rfl rfl (by omega) (by omega),x⟩ | exact ⟨_,op_neg rfl rfl rfl (by omega),x⟩ | exact ⟨_,op_makeMap rfl rfl,x⟩ | exact ⟨_,op_mapUpdate und192 und3 (.inl rfl) rfl rfl rfl rfl rfl,x⟩ | exact ⟨_,op_mapUpdate und192 und3 (.inr rfl) rfl rfl rfl rfl rfl,x⟩ | exact ⟨_,op_rangeMap und192 rfl rfl rfl,x⟩ | exact ⟨_,op_entry rfl rfl rfl rfl,x⟩ | exact ⟨_,op_and rfl rfl rfl rfl,x⟩ | exact ⟨_,op_shl rfl rfl rfl rfl (by omega),x⟩ | exact ⟨_,op_shr rfl rfl rfl rfl (by omega),x⟩ | exact ⟨_,op_conv hT rfl rfl rfl rfl rfl rfl rfl,x⟩ | exact ⟨_,op_bin (k := .u64) rfl rfl rfl rfl rfl,x⟩)) : G := h y
theorem sle {G' G : Prop} (y : G') (h : G' -> G := by intro x; first | exact ⟨rfl,rfl,x⟩ | exact ⟨rfl,by decide,rfl,x⟩) : G := h y
theorem stz {G' G : Prop} (y : G') (h : G' -> G := by intro x; refine AL_do2 rfl ?_; first | exact ⟨_,op_strcat rfl rfl rfl rfl (by omega),x⟩ | exact ⟨_,op_len_str hT rfl rfl rfl rfl rfl,x⟩ | exact ⟨_,op_quo rfl rfl rfl rfl (by decide),x⟩ | exact ⟨_,op_rem rfl rfl rfl rfl (by decide),x⟩ | exact ⟨_,op_index_arrP hT rfl rfl rfl rfl rfl rfl rfl rfl rfl (by omega) (by omega) rfl,x⟩ | exact ⟨_,op_mkiface hT rfl rfl rfl rfl rfl,x⟩) : G := h y
theorem sdr {G' G : Prop} (y : G') (h : G' -> G := by intro x; first | exact DG_step hT rfl x | exact DG_next (D_add rfl rfl rfl rfl rfl (by omega)) x | exact DG_next (D_sub rfl rfl rfl rfl rfl (by omega)) x | exact DG_next (D_len hT rfl rfl rfl rfl rfl rfl (len_map _ _)) x | exact DG_next (D_indexAddr hT rfl rfl rfl rfl rfl rfl rfl rfl (by omega) (by assumption) rfl rfl) x | exact DG_next (D_mul rfl rfl rfl rfl rfl (by assumption)) x | exact DG_next (D_min2 rfl rfl rfl rfl rfl) x | exact DG_next (D_max2 rfl rfl rfl rfl rfl) x | exact DG_next (D_buildSlice hT rfl rfl rfl rfl rfl rfl rfl rfl rfl rfl) x | exact DG_next (D_append hT rfl rfl rfl rfl rfl rfl rfl rfl rfl rfl rfl rfl (by intro y hy; (first | (simp only [List.mem_cons,List.not_mem_nil,or_false] at hy; subst hy; rfl) | (simp only [List.mem_cons,List.not_mem_nil,or_false] at hy; rcases hy with hy | hy <;> subst hy <;> rfl) | (obtain ⟨_,_,rfl⟩ := List.mem_map.1 hy; rfl) | (cases hy))) (by simp only [List.length_map,List.length_take,List.length_cons,List.length_nil,List.length_append]; omega) rfl) x | exact DG_next (D_conv hT rfl rfl rfl rfl rfl rfl rfl rfl) x) : G := h y
end Go.Abs
namespace Go.Abs
abbrev vi (n : Int) : PV := .int .i64 n
structure Span where
 low : Int
 high : Int
 deriving DecidableEq
structure Dye where
 takes : List Span
 full : Int
structure Bath where
 dye : Int
 temper : Int
 hours : Span
 deriving DecidableEq
structure Stock where
 baths : List Bath
 many : Int
 price : Int
structure Coat where
 lamps : List (List Int)
 eye : Span
 old : List Span
 need : Int
structure Sorter where
 eye : Span
 tire : Int
 looks : List Span
def eInt (n : Int) : List PV := [vi n]
def eSpan (s : Span) : List PV := [vi s.low,vi s.high]
def eSpans (l : List Span) : PV := .sl (l.map eSpan)
def eInts (l : List Int) : PV := .sl (l.map eInt)
def eDye (d : Dye) : List PV := [eSpans d.takes,vi d.full]
def eHouse (h : List Dye) : PV := .agg [.sl (h.map eDye)]
def eBath (b : Bath) : List PV := [vi b.dye,vi b.temper,vi b.hours.low,vi b.hours.high]
def eBaths (l : List Bath) : PV := .sl (l.map eBath)
def eLampC (l : List Int) : List PV := [eInts l]
def eLamp (l : List Int) : PV := .agg (eLampC l)
def eLamps (l : List (List Int)) : PV := .sl (l.map eLampC)
def eStock (s : Stock) : List PV := [eBaths s.baths,vi s.many,vi s.price]
def eStocks (l : List Stock) : PV := .sl (l.map eStock)
def eCoat (c : Coat) : PV := .agg [eLamps c.lamps,vi c.eye.low,vi c.eye.high,eSpans c.old,vi c.need]
def eSorter (s : Sorter) : PV := .agg [vi s.eye.low,vi s.eye.high,vi s.tire,eSpans s.looks]
def eS (s : Span) : PV := .agg (eSpan s)
def eHL (h : List Dye) (lamp : List Int) : PV := .agg [.sl (h.map eDye),eInts lamp]
end Go.Abs
namespace Go.Abs
open Go.Proofs
set_option linter.unusedVariables false
def nN (f : Nat -> Option ASt) : Nat -> Option ASt
 | 0 => f 0
 | k + 1 => f (k + 1)
def nL {α : Type} (f : List α -> Option ASt) : List α -> Option ASt
 | [] => f []
 | p :: r => f (p :: r)
def nO {α : Type} (f : Option α -> Option ASt) : Option α -> Option ASt
 | some y => f (some y)
 | none => f none
def nE {α : Type} (f : List (Nat × Option α) -> Option ASt) : List (Nat × Option α) -> Option ASt
 | [] => f []
 | (d,x) :: r => nO (fun x => nL (fun r => f ((d,x) :: r)) r) x
def norm1 : ASt -> Option ASt
 | ⟨e,o,n⟩ => nN (fun n => nE (fun o => nE (fun e => some ⟨e,o,n⟩) e) o) n
theorem nN_id (f : Nat -> Option ASt) (n : Nat) : nN f n = f n := by cases n <;> rfl
theorem nL_id {α : Type} (f : List α -> Option ASt) (l : List α) : nL f l = f l := by cases l <;> rfl
theorem nO_id {α : Type} (f : Option α -> Option ASt) (o : Option α) : nO f o = f o := by cases o <;> rfl
theorem nE_id {α : Type} (f : List (Nat × Option α) -> Option ASt) (l : List (Nat × Option α)) : nE f l = f l:= by
 cases l with
 | nil => rfl
 | cons p r => simp only [nE,nO_id,nL_id]
theorem norm1_id (s : ASt) : norm1 s = some s := by simp only [norm1,nN_id,nE_id]
section
variable {P : Program} {T : Nat -> Option TyI} {nt : Nat} {s s2 : ASt} {o : Oper} {ops : Array Oper} {rest : List Oper} {Q : Exit -> ASt -> Prop}
theorem nrmA (h : norm1 s = some s2) (x : AL P nt ops rest Q s2) : AL P nt ops rest Q s:= by
 rw [norm1_id] at h; cases h; exact x
theorem nrmD {id : Nat} {opl : List Oper} {s0 : ASt} {k : Nat} {l : List DEnt} (h : norm1 s = some s2) (x : DG P nt id opl Q s0 k rest s2 l) : DG P nt id opl Q s0 k rest s l:= by
 rw [norm1_id] at h; cases h; exact x
theorem AL_stepN (hT : TabOK P T) (hs : (stepG T nt ops s o).bind norm1 = some s2) (h : AL P nt ops rest Q s2) : AL P nt ops (o :: rest) Q s:= by
 cases hg : stepG T nt ops s o with
 | none => rw [hg] at hs; cases hs
 | some s1 =>
  rw [hg] at hs
  have : some s1 = some s2 := (norm1_id s1).symm.trans hs
  cases this
  exact AL_step hT hg h
theorem AL_id (h : AL P nt ops rest Q s) : AL P nt ops rest Q s := h
theorem AL_glit {j d : Nat} {b c : Bool} (hg : o.guard = some (j,b)) (hj : (ops[j]?).bind (·.dst) = some d) (hd : s.get d = some (.pv (.bool c))) (hc : c = true \/ c = false) (h : AL P nt ops (o :: rest) Q s) : AL P nt ops (o :: rest) Q s := h
end
theorem stq {G' G : Prop} (y : G') (h : G' -> G := by intro x; first | exact AL_stepN hT rfl x | exact AL_nil_then x | exact AW_seq x | exact AW_region x | exact AW_block x | exact AW_ret x | exact AW_skip x | exact AW_exit x | exact AW_label x | exact then_normal x | exact then_exit x | exact then_ret x | exact inblk_here x | exact inblk_normal x | exact inblk_ret x | exact inblk_other rfl x | exact AL_nil x | exact DG_start x | exact AW_scope x | exact nogo_normal x | exact nogo_ret x | exact nogo_exit x | exact AW_cond_t rfl x | exact AW_cond_f rfl x | (refine AL_do2 rfl ?_; first | exact ⟨_,op_add rfl rfl rfl rfl (by omega),nrmA rfl x⟩ | exact ⟨_,op_sub rfl rfl rfl rfl (by omega),nrmA rfl x⟩ | exact ⟨_,op_len_sl hT rfl rfl rfl rfl rfl (len_map _ _),nrmA rfl x⟩ | exact ⟨_,op_indexAddr_sl hT rfl rfl rfl rfl rfl rfl rfl (by omega) (by assumption) rfl rfl,nrmA rfl x⟩ | exact ⟨_,op_mul rfl rfl rfl rfl (by assumption),nrmA rfl x⟩ | exact ⟨_,op_min2 rfl rfl rfl rfl,nrmA rfl x⟩ | exact ⟨_,op_max2 rfl rfl rfl rfl,nrmA rfl x⟩ | exact ⟨_,op_append hT rfl rfl rfl rfl rfl rfl rfl rfl rfl rfl rfl (by intro y hy; (first | (simp only [List.mem_cons,List.not_mem_nil,or_false] at hy; subst hy; rfl) | (simp only [List.mem_cons,List.not_mem_nil,or_false] at hy; rcases hy with hy | hy <;> subst hy <;> rfl) | (obtain ⟨_,_,rfl⟩ := List.mem_map.1 hy; rfl) | (cases hy))) (by simp only [List.length_map,List.length_take,List.length_cons,List.length_nil,List.length_append]; omega) rfl,nrmA rfl x⟩ | exact ⟨_,op_mkmeth rfl rfl rfl,nrmA rfl x⟩ | exact ⟨_,op_build_arr hT rfl rfl rfl rfl rfl rfl rfl,nrmA rfl x⟩ | exact ⟨_,op_index_arr hT rfl rfl rfl rfl rfl rfl rfl rfl rfl (by omega) (by omega) rfl,nrmA rfl x⟩ | exact ⟨_,op_indexAddr_box hT rfl rfl rfl rfl rfl rfl rfl (by omega) (by omega),nrmA rfl x⟩ | exact ⟨_,op_neg rfl rfl rfl (by omega),nrmA rfl x⟩ | exact ⟨_,op_makeMap rfl rfl,nrmA rfl x⟩ | exact ⟨_,op_mapUpdate und192 und3 (.inl rfl) rfl rfl rfl rfl rfl,nrmA rfl x⟩ | exact ⟨_,op_mapUpdate und192 und3 (.inr rfl) rfl rfl rfl rfl rfl,nrmA rfl x⟩ | exact ⟨_,op_rangeMap und192 rfl rfl rfl,nrmA rfl x⟩ | exact ⟨_,op_entry rfl rfl rfl rfl,nrmA rfl x⟩ | exact ⟨_,op_and rfl rfl rfl rfl,nrmA rfl x⟩ | exact ⟨_,op_shl rfl rfl rfl rfl (by omega),nrmA rfl x⟩ | exact ⟨_,op_shr rfl rfl rfl rfl (by omega),nrmA rfl x⟩ | exact ⟨_,op_conv hT rfl rfl rfl rfl rfl rfl rfl,nrmA rfl x⟩ | exact ⟨_,op_bin (k := .u64) rfl rfl rfl rfl rfl,nrmA rfl x⟩)) : G := h y
theorem sty {G' G : Prop} (y : G') (h : G' -> G := by intro x; refine AL_do2 rfl ?_; first | exact ⟨_,op_strcat rfl rfl rfl rfl (by omega),nrmA rfl x⟩ | exact ⟨_,op_len_str hT rfl rfl rfl rfl rfl,nrmA rfl x⟩ | exact ⟨_,op_quo rfl rfl rfl rfl (by decide),nrmA rfl x⟩ | exact ⟨_,op_rem rfl rfl rfl rfl (by decide),nrmA rfl x⟩ | exact ⟨_,op_index_arrP hT rfl rfl rfl rfl rfl rfl rfl rfl rfl (by omega) (by omega) rfl,nrmA rfl x⟩ | exact ⟨_,op_mkiface hT rfl rfl rfl rfl rfl,nrmA rfl x⟩) : G := h y
theorem sdq {G' G : Prop} (y : G') (h : G' -> G := by intro x; first | exact DG_step hT rfl (nrmD rfl x) | exact DG_next (D_add rfl rfl rfl rfl rfl (by omega)) (nrmD rfl x) | exact DG_next (D_sub rfl rfl rfl rfl rfl (by omega)) (nrmD rfl x) | exact DG_next (D_len hT rfl rfl rfl rfl rfl rfl (len_map _ _)) (nrmD rfl x) | exact DG_next (D_indexAddr hT rfl rfl rfl rfl rfl rfl rfl rfl (by omega) (by assumption) rfl rfl) (nrmD rfl x) | exact DG_next (D_mul rfl rfl rfl rfl rfl (by assumption)) (nrmD rfl x) | exact DG_next (D_min2 rfl rfl rfl rfl rfl) (nrmD rfl x) | exact DG_next (D_max2 rfl rfl rfl rfl rfl) (nrmD rfl x) | exact DG_next (D_buildSlice hT rfl rfl rfl rfl rfl rfl rfl rfl rfl rfl) (nrmD rfl x) | exact DG_next (D_append hT rfl rfl rfl rfl rfl rfl rfl rfl rfl rfl rfl rfl (by intro y hy; (first | (simp only [List.mem_cons,List.not_mem_nil,or_false] at hy; subst hy; rfl) | (simp only [List.mem_cons,List.not_mem_nil,or_false] at hy; rcases hy with hy | hy <;> subst hy <;> rfl) | (obtain ⟨_,_,rfl⟩ := List.mem_map.1 hy; rfl) | (cases hy))) (by simp only [List.length_map,List.length_take,List.length_cons,List.length_nil,List.length_append]; omega) rfl) (nrmD rfl x) | exact DG_next (D_conv hT rfl rfl rfl rfl rfl rfl rfl rfl) (nrmD rfl x)) : G := h y
end Go.Abs
