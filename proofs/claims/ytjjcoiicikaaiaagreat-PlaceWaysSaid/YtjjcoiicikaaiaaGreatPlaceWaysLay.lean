import Derived.Test.YtjjcoiicikaaiaaGreatProg
import Derived.Test.YtjjcoiicikaaiaaGreatPlaceWaysVb
import Derived.KernelRfl
namespace Go.Proofs

open Go Go.Vx

def Tryz.lay0 : Lay := [(1, ⟨.other, 1, 8, .nilFunc⟩),
 (3, ⟨.int .i64, 1, 8, .int .i64 (0)⟩),
 (4, ⟨.bool, 1, 1, .bool false⟩),
 (2, ⟨.int .i64, 1, 8, .int .i64 (0)⟩),
 (8, ⟨.struct [(0, 2), (1, 3), (2, 4), (3, 6)], 4, 24, .agg #[.int .i64 (0), .int .i64 (0), .bool false, .int .u8 (0)]⟩),
 (24, ⟨.slice 3, 1, 24, .slice none 0 0⟩),
 (28, ⟨.int .i64, 1, 8, .int .i64 (0)⟩),
 (5, ⟨.int .u8, 1, 1, .int .u8 (0)⟩),
 (6, ⟨.int .u8, 1, 1, .int .u8 (0)⟩),
 (39, ⟨.struct [(0, 36), (1, 3), (2, 37)], 3, 56, .agg #[.slice none 0 0, .int .i64 (0), .slice none 0 0]⟩),
 (7, ⟨.struct [(0, 2), (1, 3), (2, 4), (3, 6)], 4, 24, .agg #[.int .i64 (0), .int .i64 (0), .bool false, .int .u8 (0)]⟩),
 (84, ⟨.slice 98, 1, 24, .slice none 0 0⟩)]

theorem Tryz.okLay0 : LayOk Tryz.prog Tryz.lay0 := ⟨⟨by kernel_rfl, by kernel_rfl⟩, ⟨by kernel_rfl, by kernel_rfl⟩, ⟨by kernel_rfl, by kernel_rfl⟩, ⟨by kernel_rfl, by kernel_rfl⟩, ⟨by kernel_rfl, by kernel_rfl⟩, ⟨by kernel_rfl, by kernel_rfl⟩, ⟨by kernel_rfl, by kernel_rfl⟩, ⟨by kernel_rfl, by kernel_rfl⟩, ⟨by kernel_rfl, by kernel_rfl⟩, ⟨by kernel_rfl, by kernel_rfl⟩, ⟨by kernel_rfl, by kernel_rfl⟩, ⟨by kernel_rfl, by kernel_rfl⟩, trivial⟩

def Tryz.lay1 : Lay := [(26, ⟨.struct [(0, 23), (3, 3), (4, 3), (5, 3), (6, 3), (7, 24)], 8, 80, .agg #[.int .i64 (0), .int .i64 (0), .int .i64 (0), .int .i64 (0), .int .i64 (0), .int .i64 (0), .int .i64 (0), .slice none 0 0]⟩),
 (70, ⟨.struct [(0, 3), (1, 3), (2, 3), (3, 3)], 4, 32, .agg #[.int .i64 (0), .int .i64 (0), .int .i64 (0), .int .i64 (0)]⟩),
 (98, ⟨.struct [(0, 3), (1, 3), (2, 3)], 3, 24, .agg #[.int .i64 (0), .int .i64 (0), .int .i64 (0)]⟩),
 (57, ⟨.struct [(0, 24), (1, 24), (2, 42), (9, 54), (10, 55), (11, 24), (12, 3), (13, 3), (14, 3)], 15, 280, .agg #[.slice none 0 0, .slice none 0 0, .slice none 0 0, .int .i64 (0), .slice none 0 0, .slice none 0 0, .slice none 0 0, .slice none 0 0, .bool false, .slice none 0 0, .slice none 0 0, .slice none 0 0, .int .i64 (0), .int .i64 (0), .int .i64 (0)]⟩),
 (23, ⟨.struct [(0, 3), (1, 3), (2, 3)], 3, 24, .agg #[.int .i64 (0), .int .i64 (0), .int .i64 (0)]⟩),
 (33, ⟨.struct [(0, 31), (3, 3), (4, 3), (5, 3), (6, 3), (7, 24)], 8, 80, .agg #[.int .i64 (0), .int .i64 (0), .int .i64 (0), .int .i64 (0), .int .i64 (0), .int .i64 (0), .int .i64 (0), .slice none 0 0]⟩),
 (254, ⟨.int .u64, 1, 8, .int .u64 (0)⟩),
 (42, ⟨.struct [(0, 39), (3, 24), (4, 24), (5, 24), (6, 4)], 7, 136, .agg #[.slice none 0 0, .int .i64 (0), .slice none 0 0, .slice none 0 0, .slice none 0 0, .slice none 0 0, .bool false]⟩),
 (15, ⟨.pointer, 1, 8, .pointer none⟩),
 (16, ⟨.pointer, 1, 8, .pointer none⟩),
 (31, ⟨.struct [(0, 3), (1, 3), (2, 3)], 3, 24, .agg #[.int .i64 (0), .int .i64 (0), .int .i64 (0)]⟩),
 (12, ⟨.int .u64, 1, 8, .int .u64 (0)⟩)]

theorem Tryz.okLay1 : LayOk Tryz.prog Tryz.lay1 := ⟨⟨by kernel_rfl, by kernel_rfl⟩, ⟨by kernel_rfl, by kernel_rfl⟩, ⟨by kernel_rfl, by kernel_rfl⟩, ⟨by kernel_rfl, by kernel_rfl⟩, ⟨by kernel_rfl, by kernel_rfl⟩, ⟨by kernel_rfl, by kernel_rfl⟩, ⟨by kernel_rfl, by kernel_rfl⟩, ⟨by kernel_rfl, by kernel_rfl⟩, ⟨by kernel_rfl, by kernel_rfl⟩, ⟨by kernel_rfl, by kernel_rfl⟩, ⟨by kernel_rfl, by kernel_rfl⟩, ⟨by kernel_rfl, by kernel_rfl⟩, trivial⟩

def Tryz.lay2 : Lay := [(123, ⟨.pointer, 1, 8, .pointer none⟩),
 (74, ⟨.struct [(0, 3), (1, 3), (2, 3), (3, 3), (4, 3), (5, 3), (6, 3), (7, 3)], 8, 64, .agg #[.int .i64 (0), .int .i64 (0), .int .i64 (0), .int .i64 (0), .int .i64 (0), .int .i64 (0), .int .i64 (0), .int .i64 (0)]⟩),
 (205, ⟨.int .u64, 1, 8, .int .u64 (0)⟩),
 (177, ⟨.slice 178, 1, 24, .slice none 0 0⟩),
 (36, ⟨.slice 74, 1, 24, .slice none 0 0⟩),
 (37, ⟨.slice 70, 1, 24, .slice none 0 0⟩),
 (153, ⟨.struct [(0, 3), (1, 3), (2, 24), (3, 24)], 4, 64, .agg #[.int .i64 (0), .int .i64 (0), .slice none 0 0, .slice none 0 0]⟩),
 (261, ⟨.struct [(0, 3), (1, 3)], 2, 16, .agg #[.int .i64 (0), .int .i64 (0)]⟩),
 (63, ⟨.struct [(0, 24), (1, 24), (2, 45), (9, 60), (10, 61), (11, 24), (12, 3), (13, 3), (14, 3)], 15, 280, .agg #[.slice none 0 0, .slice none 0 0, .slice none 0 0, .int .i64 (0), .slice none 0 0, .slice none 0 0, .slice none 0 0, .slice none 0 0, .bool false, .slice none 0 0, .slice none 0 0, .slice none 0 0, .int .i64 (0), .int .i64 (0), .int .i64 (0)]⟩),
 (178, ⟨.struct [(0, 3), (1, 3), (2, 3)], 3, 24, .agg #[.int .i64 (0), .int .i64 (0), .int .i64 (0)]⟩),
 (218, ⟨.other, 1, 8, .nilFunc⟩),
 (45, ⟨.struct [(0, 39), (3, 24), (4, 24), (5, 24), (6, 4)], 7, 136, .agg #[.slice none 0 0, .int .i64 (0), .slice none 0 0, .slice none 0 0, .slice none 0 0, .slice none 0 0, .bool false]⟩)]

theorem Tryz.okLay2 : LayOk Tryz.prog Tryz.lay2 := ⟨⟨by kernel_rfl, by kernel_rfl⟩, ⟨by kernel_rfl, by kernel_rfl⟩, ⟨by kernel_rfl, by kernel_rfl⟩, ⟨by kernel_rfl, by kernel_rfl⟩, ⟨by kernel_rfl, by kernel_rfl⟩, ⟨by kernel_rfl, by kernel_rfl⟩, ⟨by kernel_rfl, by kernel_rfl⟩, ⟨by kernel_rfl, by kernel_rfl⟩, ⟨by kernel_rfl, by kernel_rfl⟩, ⟨by kernel_rfl, by kernel_rfl⟩, ⟨by kernel_rfl, by kernel_rfl⟩, ⟨by kernel_rfl, by kernel_rfl⟩, trivial⟩

def Tryz.lay3 : Lay := [(71, ⟨.other, 1, 8, .nilFunc⟩),
 (166, ⟨.slice 175, 1, 24, .slice none 0 0⟩),
 (185, ⟨.pointer, 1, 8, .pointer none⟩),
 (251, ⟨.int .u32, 1, 4, .int .u32 (0)⟩),
 (55, ⟨.slice 84, 1, 24, .slice none 0 0⟩),
 (17, ⟨.pointer, 1, 8, .pointer none⟩),
 (107, ⟨.struct [(0, 103), (1, 104), (2, 105), (3, 3)], 4, 80, .agg #[.slice none 0 0, .slice none 0 0, .slice none 0 0, .int .i64 (0)]⟩),
 (27, ⟨.other, 1, 8, .nilFunc⟩),
 (197, ⟨.pointer, 1, 8, .pointer none⟩),
 (102, ⟨.struct [(0, 3), (1, 3), (2, 3), (3, 3)], 4, 32, .agg #[.int .i64 (0), .int .i64 (0), .int .i64 (0), .int .i64 (0)]⟩),
 (190, ⟨.struct [(0, 23), (3, 55), (4, 99), (5, 186), (6, 187), (7, 188), (8, 107)], 12, 176, .agg #[.int .i64 (0), .int .i64 (0), .int .i64 (0), .slice none 0 0, .slice none 0 0, .map none, .map none, .map none, .slice none 0 0, .slice none 0 0, .slice none 0 0, .int .i64 (0)]⟩),
 (248, ⟨.pointer, 1, 8, .pointer none⟩)]

theorem Tryz.okLay3 : LayOk Tryz.prog Tryz.lay3 := ⟨⟨by kernel_rfl, by kernel_rfl⟩, ⟨by kernel_rfl, by kernel_rfl⟩, ⟨by kernel_rfl, by kernel_rfl⟩, ⟨by kernel_rfl, by kernel_rfl⟩, ⟨by kernel_rfl, by kernel_rfl⟩, ⟨by kernel_rfl, by kernel_rfl⟩, ⟨by kernel_rfl, by kernel_rfl⟩, ⟨by kernel_rfl, by kernel_rfl⟩, ⟨by kernel_rfl, by kernel_rfl⟩, ⟨by kernel_rfl, by kernel_rfl⟩, ⟨by kernel_rfl, by kernel_rfl⟩, ⟨by kernel_rfl, by kernel_rfl⟩, trivial⟩

def Tryz.lay4 : Lay := [(196, ⟨.struct [(0, 3), (1, 3), (2, 3)], 3, 24, .agg #[.int .i64 (0), .int .i64 (0), .int .i64 (0)]⟩),
 (61, ⟨.slice 177, 1, 24, .slice none 0 0⟩),
 (142, ⟨.struct [(0, 26), (8, 39), (11, 140), (12, 140), (13, 24)], 14, 208, .agg #[.int .i64 (0), .int .i64 (0), .int .i64 (0), .int .i64 (0), .int .i64 (0), .int .i64 (0), .int .i64 (0), .slice none 0 0, .slice none 0 0, .int .i64 (0), .slice none 0 0, .slice none 0 0, .slice none 0 0, .slice none 0 0]⟩),
 (19, ⟨.struct [(0, 17)], 1, 8, .agg #[.pointer none]⟩),
 (25, ⟨.struct [(0, 23), (3, 3), (4, 3), (5, 3), (6, 3), (7, 24)], 8, 80, .agg #[.int .i64 (0), .int .i64 (0), .int .i64 (0), .int .i64 (0), .int .i64 (0), .int .i64 (0), .int .i64 (0), .slice none 0 0]⟩),
 (18, ⟨.struct [(0, 17)], 1, 8, .agg #[.pointer none]⟩),
 (32, ⟨.struct [(0, 31), (3, 3), (4, 3), (5, 3), (6, 3), (7, 24)], 8, 80, .agg #[.int .i64 (0), .int .i64 (0), .int .i64 (0), .int .i64 (0), .int .i64 (0), .int .i64 (0), .int .i64 (0), .slice none 0 0]⟩),
 (114, ⟨.other, 1, 8, .nilFunc⟩),
 (145, ⟨.pointer, 1, 8, .pointer none⟩),
 (132, ⟨.slice 202, 1, 24, .slice none 0 0⟩),
 (200, ⟨.other, 1, 8, .nilFunc⟩),
 (279, ⟨.int .i64, 1, 8, .int .i64 (0)⟩)]

theorem Tryz.okLay4 : LayOk Tryz.prog Tryz.lay4 := ⟨⟨by kernel_rfl, by kernel_rfl⟩, ⟨by kernel_rfl, by kernel_rfl⟩, ⟨by kernel_rfl, by kernel_rfl⟩, ⟨by kernel_rfl, by kernel_rfl⟩, ⟨by kernel_rfl, by kernel_rfl⟩, ⟨by kernel_rfl, by kernel_rfl⟩, ⟨by kernel_rfl, by kernel_rfl⟩, ⟨by kernel_rfl, by kernel_rfl⟩, ⟨by kernel_rfl, by kernel_rfl⟩, ⟨by kernel_rfl, by kernel_rfl⟩, ⟨by kernel_rfl, by kernel_rfl⟩, ⟨by kernel_rfl, by kernel_rfl⟩, trivial⟩

def Tryz.lay5 : Lay := [(121, ⟨.other, 1, 8, .nilFunc⟩),
 (202, ⟨.struct [(0, 3), (1, 3)], 2, 16, .agg #[.int .i64 (0), .int .i64 (0)]⟩),
 (80, ⟨.slice 82, 1, 24, .slice none 0 0⟩),
 (53, ⟨.other, 1, 8, .nilFunc⟩),
 (40, ⟨.other, 1, 8, .nilFunc⟩),
 (99, ⟨.slice 102, 1, 24, .slice none 0 0⟩),
 (54, ⟨.slice 80, 1, 24, .slice none 0 0⟩),
 (82, ⟨.struct [(0, 3), (1, 3), (2, 3), (3, 3)], 4, 32, .agg #[.int .i64 (0), .int .i64 (0), .int .i64 (0), .int .i64 (0)]⟩),
 (122, ⟨.other, 1, 8, .nilFunc⟩),
 (170, ⟨.slice 166, 1, 24, .slice none 0 0⟩),
 (175, ⟨.struct [(0, 3), (1, 3), (2, 24), (3, 24)], 4, 64, .agg #[.int .i64 (0), .int .i64 (0), .slice none 0 0, .slice none 0 0]⟩),
 (294, ⟨.int .u64, 1, 8, .int .u64 (0)⟩)]

theorem Tryz.okLay5 : LayOk Tryz.prog Tryz.lay5 := ⟨⟨by kernel_rfl, by kernel_rfl⟩, ⟨by kernel_rfl, by kernel_rfl⟩, ⟨by kernel_rfl, by kernel_rfl⟩, ⟨by kernel_rfl, by kernel_rfl⟩, ⟨by kernel_rfl, by kernel_rfl⟩, ⟨by kernel_rfl, by kernel_rfl⟩, ⟨by kernel_rfl, by kernel_rfl⟩, ⟨by kernel_rfl, by kernel_rfl⟩, ⟨by kernel_rfl, by kernel_rfl⟩, ⟨by kernel_rfl, by kernel_rfl⟩, ⟨by kernel_rfl, by kernel_rfl⟩, ⟨by kernel_rfl, by kernel_rfl⟩, trivial⟩

def Tryz.lay6 : Lay := [(48, ⟨.other, 1, 8, .nilFunc⟩),
 (51, ⟨.other, 1, 8, .nilFunc⟩),
 (155, ⟨.struct [(0, 3), (1, 3), (2, 24)], 3, 40, .agg #[.int .i64 (0), .int .i64 (0), .slice none 0 0]⟩),
 (130, ⟨.other, 1, 8, .nilFunc⟩),
 (143, ⟨.slice 155, 1, 24, .slice none 0 0⟩),
 (103, ⟨.slice 112, 1, 24, .slice none 0 0⟩),
 (140, ⟨.slice 24, 1, 24, .slice none 0 0⟩),
 (34, ⟨.other, 1, 8, .nilFunc⟩),
 (115, ⟨.other, 1, 8, .nilFunc⟩),
 (306, ⟨.other, 1, 8, .nilFunc⟩),
 (231, ⟨.struct [(0, 3), (1, 3), (2, 24)], 3, 40, .agg #[.int .i64 (0), .int .i64 (0), .slice none 0 0]⟩),
 (72, ⟨.other, 1, 8, .nilFunc⟩)]

theorem Tryz.okLay6 : LayOk Tryz.prog Tryz.lay6 := ⟨⟨by kernel_rfl, by kernel_rfl⟩, ⟨by kernel_rfl, by kernel_rfl⟩, ⟨by kernel_rfl, by kernel_rfl⟩, ⟨by kernel_rfl, by kernel_rfl⟩, ⟨by kernel_rfl, by kernel_rfl⟩, ⟨by kernel_rfl, by kernel_rfl⟩, ⟨by kernel_rfl, by kernel_rfl⟩, ⟨by kernel_rfl, by kernel_rfl⟩, ⟨by kernel_rfl, by kernel_rfl⟩, ⟨by kernel_rfl, by kernel_rfl⟩, ⟨by kernel_rfl, by kernel_rfl⟩, ⟨by kernel_rfl, by kernel_rfl⟩, trivial⟩

def Tryz.lay7 : Lay := [(120, ⟨.pointer, 1, 8, .pointer none⟩),
 (126, ⟨.map 3 3, 1, 8, .map none⟩),
 (230, ⟨.slice 231, 1, 24, .slice none 0 0⟩),
 (20, ⟨.other, 1, 16, .nilIface⟩),
 (47, ⟨.other, 1, 8, .nilFunc⟩),
 (77, ⟨.map 79 3, 1, 8, .map none⟩),
 (86, ⟨.other, 1, 8, .nilFunc⟩),
 (144, ⟨.slice 145, 1, 24, .slice none 0 0⟩),
 (148, ⟨.struct [(0, 146), (1, 3), (2, 3)], 3, 24, .agg #[.map none, .int .i64 (0), .int .i64 (0)]⟩),
 (90, ⟨.other, 1, 8, .nilFunc⟩),
 (104, ⟨.slice 244, 1, 24, .slice none 0 0⟩),
 (214, ⟨.struct [(0, 3), (1, 3)], 2, 16, .agg #[.int .i64 (0), .int .i64 (0)]⟩)]

theorem Tryz.okLay7 : LayOk Tryz.prog Tryz.lay7 := ⟨⟨by kernel_rfl, by kernel_rfl⟩, ⟨by kernel_rfl, by kernel_rfl⟩, ⟨by kernel_rfl, by kernel_rfl⟩, ⟨by kernel_rfl, by kernel_rfl⟩, ⟨by kernel_rfl, by kernel_rfl⟩, ⟨by kernel_rfl, by kernel_rfl⟩, ⟨by kernel_rfl, by kernel_rfl⟩, ⟨by kernel_rfl, by kernel_rfl⟩, ⟨by kernel_rfl, by kernel_rfl⟩, ⟨by kernel_rfl, by kernel_rfl⟩, ⟨by kernel_rfl, by kernel_rfl⟩, ⟨by kernel_rfl, by kernel_rfl⟩, trivial⟩

def Tryz.lay8 : Lay := [(256, ⟨.other, 1, 8, .nilFunc⟩),
 (291, ⟨.other, 1, 8, .nilFunc⟩),
 (112, ⟨.struct [(0, 3), (1, 3), (2, 3)], 3, 24, .agg #[.int .i64 (0), .int .i64 (0), .int .i64 (0)]⟩),
 (186, ⟨.map 3 24, 1, 8, .map none⟩),
 (199, ⟨.struct [(0, 24)], 1, 24, .agg #[.slice none 0 0]⟩),
 (300, ⟨.other, 1, 8, .nilFunc⟩),
 (21, ⟨.int .i32, 1, 4, .int .i32 (0)⟩),
 (52, ⟨.other, 1, 8, .nilFunc⟩),
 (68, ⟨.slice 4, 1, 24, .slice none 0 0⟩),
 (92, ⟨.other, 1, 8, .nilFunc⟩),
 (220, ⟨.other, 1, 8, .nilFunc⟩),
 (239, ⟨.struct [(0, 3), (1, 237)], 2, 16, .agg #[.int .i64 (0), .nilFunc]⟩)]

theorem Tryz.okLay8 : LayOk Tryz.prog Tryz.lay8 := ⟨⟨by kernel_rfl, by kernel_rfl⟩, ⟨by kernel_rfl, by kernel_rfl⟩, ⟨by kernel_rfl, by kernel_rfl⟩, ⟨by kernel_rfl, by kernel_rfl⟩, ⟨by kernel_rfl, by kernel_rfl⟩, ⟨by kernel_rfl, by kernel_rfl⟩, ⟨by kernel_rfl, by kernel_rfl⟩, ⟨by kernel_rfl, by kernel_rfl⟩, ⟨by kernel_rfl, by kernel_rfl⟩, ⟨by kernel_rfl, by kernel_rfl⟩, ⟨by kernel_rfl, by kernel_rfl⟩, ⟨by kernel_rfl, by kernel_rfl⟩, trivial⟩

def Tryz.lay9 : Lay := [(22, ⟨.struct [(0, 3), (1, 3), (2, 3)], 3, 24, .agg #[.int .i64 (0), .int .i64 (0), .int .i64 (0)]⟩),
 (44, ⟨.other, 1, 8, .nilFunc⟩),
 (60, ⟨.slice 164, 1, 24, .slice none 0 0⟩),
 (73, ⟨.struct [(0, 3), (1, 3), (2, 3), (3, 3), (4, 3), (5, 3), (6, 3), (7, 3)], 8, 64, .agg #[.int .i64 (0), .int .i64 (0), .int .i64 (0), .int .i64 (0), .int .i64 (0), .int .i64 (0), .int .i64 (0), .int .i64 (0)]⟩),
 (79, ⟨.array 2 3, 2, 16, .agg #[.int .i64 (0), .int .i64 (0)]⟩),
 (88, ⟨.other, 1, 8, .nilFunc⟩),
 (125, ⟨.other, 1, 8, .nilFunc⟩),
 (134, ⟨.other, 1, 8, .nilFunc⟩),
 (139, ⟨.other, 1, 8, .nilFunc⟩),
 (49, ⟨.other, 1, 8, .nilFunc⟩),
 (56, ⟨.struct [(0, 24), (1, 24), (2, 42), (9, 54), (10, 55), (11, 24), (12, 3), (13, 3), (14, 3)], 15, 280, .agg #[.slice none 0 0, .slice none 0 0, .slice none 0 0, .int .i64 (0), .slice none 0 0, .slice none 0 0, .slice none 0 0, .slice none 0 0, .bool false, .slice none 0 0, .slice none 0 0, .slice none 0 0, .int .i64 (0), .int .i64 (0), .int .i64 (0)]⟩),
 (59, ⟨.other, 1, 8, .nilFunc⟩)]

theorem Tryz.okLay9 : LayOk Tryz.prog Tryz.lay9 := ⟨⟨by kernel_rfl, by kernel_rfl⟩, ⟨by kernel_rfl, by kernel_rfl⟩, ⟨by kernel_rfl, by kernel_rfl⟩, ⟨by kernel_rfl, by kernel_rfl⟩, ⟨by kernel_rfl, by kernel_rfl⟩, ⟨by kernel_rfl, by kernel_rfl⟩, ⟨by kernel_rfl, by kernel_rfl⟩, ⟨by kernel_rfl, by kernel_rfl⟩, ⟨by kernel_rfl, by kernel_rfl⟩, ⟨by kernel_rfl, by kernel_rfl⟩, ⟨by kernel_rfl, by kernel_rfl⟩, ⟨by kernel_rfl, by kernel_rfl⟩, trivial⟩

def Tryz.lay10 : Lay := [(83, ⟨.other, 1, 8, .nilFunc⟩),
 (91, ⟨.other, 1, 8, .nilFunc⟩),
 (95, ⟨.other, 1, 8, .nilFunc⟩),
 (105, ⟨.slice 79, 1, 24, .slice none 0 0⟩),
 (109, ⟨.other, 1, 8, .nilFunc⟩),
 (129, ⟨.other, 1, 8, .nilFunc⟩),
 (138, ⟨.other, 1, 8, .nilFunc⟩),
 (152, ⟨.struct [(0, 3), (1, 3), (2, 24), (3, 24)], 4, 64, .agg #[.int .i64 (0), .int .i64 (0), .slice none 0 0, .slice none 0 0]⟩),
 (164, ⟨.slice 165, 1, 24, .slice none 0 0⟩),
 (208, ⟨.other, 1, 8, .nilFunc⟩),
 (67, ⟨.other, 1, 8, .nilFunc⟩),
 (96, ⟨.other, 1, 8, .nilFunc⟩)]

theorem Tryz.okLay10 : LayOk Tryz.prog Tryz.lay10 := ⟨⟨by kernel_rfl, by kernel_rfl⟩, ⟨by kernel_rfl, by kernel_rfl⟩, ⟨by kernel_rfl, by kernel_rfl⟩, ⟨by kernel_rfl, by kernel_rfl⟩, ⟨by kernel_rfl, by kernel_rfl⟩, ⟨by kernel_rfl, by kernel_rfl⟩, ⟨by kernel_rfl, by kernel_rfl⟩, ⟨by kernel_rfl, by kernel_rfl⟩, ⟨by kernel_rfl, by kernel_rfl⟩, ⟨by kernel_rfl, by kernel_rfl⟩, ⟨by kernel_rfl, by kernel_rfl⟩, ⟨by kernel_rfl, by kernel_rfl⟩, trivial⟩

def Tryz.lay11 : Lay := [(100, ⟨.other, 1, 8, .nilFunc⟩),
 (110, ⟨.other, 1, 8, .nilFunc⟩),
 (113, ⟨.other, 1, 8, .nilFunc⟩),
 (136, ⟨.other, 1, 8, .nilFunc⟩),
 (156, ⟨.other, 1, 8, .nilFunc⟩),
 (176, ⟨.other, 1, 8, .nilFunc⟩),
 (180, ⟨.other, 1, 8, .nilFunc⟩),
 (187, ⟨.map 196 197, 1, 8, .map none⟩),
 (209, ⟨.other, 1, 8, .nilFunc⟩),
 (223, ⟨.other, 1, 8, .nilFunc⟩),
 (250, ⟨.other, 1, 8, .nilFunc⟩),
 (288, ⟨.other, 1, 8, .nilFunc⟩)]

theorem Tryz.okLay11 : LayOk Tryz.prog Tryz.lay11 := ⟨⟨by kernel_rfl, by kernel_rfl⟩, ⟨by kernel_rfl, by kernel_rfl⟩, ⟨by kernel_rfl, by kernel_rfl⟩, ⟨by kernel_rfl, by kernel_rfl⟩, ⟨by kernel_rfl, by kernel_rfl⟩, ⟨by kernel_rfl, by kernel_rfl⟩, ⟨by kernel_rfl, by kernel_rfl⟩, ⟨by kernel_rfl, by kernel_rfl⟩, ⟨by kernel_rfl, by kernel_rfl⟩, ⟨by kernel_rfl, by kernel_rfl⟩, ⟨by kernel_rfl, by kernel_rfl⟩, ⟨by kernel_rfl, by kernel_rfl⟩, trivial⟩

def Tryz.lay12 : Lay := [(29, ⟨.other, 1, 8, .nilFunc⟩),
 (30, ⟨.other, 1, 8, .nilFunc⟩),
 (35, ⟨.other, 1, 8, .nilFunc⟩),
 (66, ⟨.other, 1, 8, .nilFunc⟩),
 (87, ⟨.other, 1, 8, .nilFunc⟩),
 (111, ⟨.struct [(0, 3), (1, 3), (2, 3)], 3, 24, .agg #[.int .i64 (0), .int .i64 (0), .int .i64 (0)]⟩),
 (151, ⟨.other, 1, 8, .nilFunc⟩),
 (181, ⟨.other, 1, 8, .nilFunc⟩),
 (184, ⟨.other, 1, 8, .nilFunc⟩),
 (188, ⟨.map 196 3, 1, 8, .map none⟩),
 (192, ⟨.other, 1, 8, .nilFunc⟩),
 (263, ⟨.other, 1, 8, .nilFunc⟩)]

theorem Tryz.okLay12 : LayOk Tryz.prog Tryz.lay12 := ⟨⟨by kernel_rfl, by kernel_rfl⟩, ⟨by kernel_rfl, by kernel_rfl⟩, ⟨by kernel_rfl, by kernel_rfl⟩, ⟨by kernel_rfl, by kernel_rfl⟩, ⟨by kernel_rfl, by kernel_rfl⟩, ⟨by kernel_rfl, by kernel_rfl⟩, ⟨by kernel_rfl, by kernel_rfl⟩, ⟨by kernel_rfl, by kernel_rfl⟩, ⟨by kernel_rfl, by kernel_rfl⟩, ⟨by kernel_rfl, by kernel_rfl⟩, ⟨by kernel_rfl, by kernel_rfl⟩, ⟨by kernel_rfl, by kernel_rfl⟩, trivial⟩

def Tryz.lay13 : Lay := [(81, ⟨.struct [(0, 3), (1, 3), (2, 3), (3, 3)], 4, 32, .agg #[.int .i64 (0), .int .i64 (0), .int .i64 (0), .int .i64 (0)]⟩),
 (89, ⟨.other, 1, 8, .nilFunc⟩),
 (93, ⟨.other, 1, 8, .nilFunc⟩),
 (116, ⟨.other, 1, 8, .nilFunc⟩),
 (119, ⟨.other, 1, 8, .nilFunc⟩),
 (128, ⟨.other, 1, 8, .nilFunc⟩),
 (137, ⟨.other, 1, 8, .nilFunc⟩),
 (157, ⟨.other, 1, 8, .nilFunc⟩),
 (159, ⟨.other, 1, 8, .nilFunc⟩),
 (183, ⟨.other, 1, 8, .nilFunc⟩),
 (193, ⟨.other, 1, 8, .nilFunc⟩),
 (211, ⟨.other, 1, 8, .nilFunc⟩)]

theorem Tryz.okLay13 : LayOk Tryz.prog Tryz.lay13 := ⟨⟨by kernel_rfl, by kernel_rfl⟩, ⟨by kernel_rfl, by kernel_rfl⟩, ⟨by kernel_rfl, by kernel_rfl⟩, ⟨by kernel_rfl, by kernel_rfl⟩, ⟨by kernel_rfl, by kernel_rfl⟩, ⟨by kernel_rfl, by kernel_rfl⟩, ⟨by kernel_rfl, by kernel_rfl⟩, ⟨by kernel_rfl, by kernel_rfl⟩, ⟨by kernel_rfl, by kernel_rfl⟩, ⟨by kernel_rfl, by kernel_rfl⟩, ⟨by kernel_rfl, by kernel_rfl⟩, ⟨by kernel_rfl, by kernel_rfl⟩, trivial⟩

def Tryz.lay14 : Lay := [(237, ⟨.other, 1, 8, .nilFunc⟩),
 (264, ⟨.other, 1, 8, .nilFunc⟩),
 (270, ⟨.other, 1, 8, .nilFunc⟩),
 (278, ⟨.other, 1, 8, .nilFunc⟩),
 (281, ⟨.other, 1, 8, .nilFunc⟩),
 (295, ⟨.other, 1, 8, .nilFunc⟩),
 (302, ⟨.pointer, 1, 8, .pointer none⟩),
 (41, ⟨.struct [(0, 39), (3, 24), (4, 24), (5, 24), (6, 4)], 7, 136, .agg #[.slice none 0 0, .int .i64 (0), .slice none 0 0, .slice none 0 0, .slice none 0 0, .slice none 0 0, .bool false]⟩),
 (65, ⟨.other, 1, 8, .nilFunc⟩),
 (131, ⟨.other, 1, 8, .nilFunc⟩),
 (133, ⟨.other, 1, 8, .nilFunc⟩),
 (146, ⟨.map 214 3, 1, 8, .map none⟩)]

theorem Tryz.okLay14 : LayOk Tryz.prog Tryz.lay14 := ⟨⟨by kernel_rfl, by kernel_rfl⟩, ⟨by kernel_rfl, by kernel_rfl⟩, ⟨by kernel_rfl, by kernel_rfl⟩, ⟨by kernel_rfl, by kernel_rfl⟩, ⟨by kernel_rfl, by kernel_rfl⟩, ⟨by kernel_rfl, by kernel_rfl⟩, ⟨by kernel_rfl, by kernel_rfl⟩, ⟨by kernel_rfl, by kernel_rfl⟩, ⟨by kernel_rfl, by kernel_rfl⟩, ⟨by kernel_rfl, by kernel_rfl⟩, ⟨by kernel_rfl, by kernel_rfl⟩, ⟨by kernel_rfl, by kernel_rfl⟩, trivial⟩

def Tryz.lay15 : Lay := [(154, ⟨.struct [(0, 3), (1, 3), (2, 24)], 3, 40, .agg #[.int .i64 (0), .int .i64 (0), .slice none 0 0]⟩),
 (201, ⟨.struct [(0, 3), (1, 3)], 2, 16, .agg #[.int .i64 (0), .int .i64 (0)]⟩),
 (203, ⟨.other, 1, 8, .nilFunc⟩),
 (219, ⟨.other, 1, 8, .nilFunc⟩),
 (236, ⟨.other, 1, 8, .nilFunc⟩),
 (246, ⟨.other, 1, 8, .nilFunc⟩),
 (262, ⟨.other, 1, 8, .nilFunc⟩),
 (277, ⟨.other, 1, 8, .nilFunc⟩),
 (38, ⟨.struct [(0, 36), (1, 3), (2, 37)], 3, 56, .agg #[.slice none 0 0, .int .i64 (0), .slice none 0 0]⟩),
 (62, ⟨.struct [(0, 24), (1, 24), (2, 45), (9, 60), (10, 61), (11, 24), (12, 3), (13, 3), (14, 3)], 15, 280, .agg #[.slice none 0 0, .slice none 0 0, .slice none 0 0, .int .i64 (0), .slice none 0 0, .slice none 0 0, .slice none 0 0, .slice none 0 0, .bool false, .slice none 0 0, .slice none 0 0, .slice none 0 0, .int .i64 (0), .int .i64 (0), .int .i64 (0)]⟩),
 (76, ⟨.other, 1, 8, .nilFunc⟩),
 (141, ⟨.struct [(0, 26), (8, 39), (11, 140), (12, 140), (13, 24)], 14, 208, .agg #[.int .i64 (0), .int .i64 (0), .int .i64 (0), .int .i64 (0), .int .i64 (0), .int .i64 (0), .int .i64 (0), .slice none 0 0, .slice none 0 0, .int .i64 (0), .slice none 0 0, .slice none 0 0, .slice none 0 0, .slice none 0 0]⟩)]

theorem Tryz.okLay15 : LayOk Tryz.prog Tryz.lay15 := ⟨⟨by kernel_rfl, by kernel_rfl⟩, ⟨by kernel_rfl, by kernel_rfl⟩, ⟨by kernel_rfl, by kernel_rfl⟩, ⟨by kernel_rfl, by kernel_rfl⟩, ⟨by kernel_rfl, by kernel_rfl⟩, ⟨by kernel_rfl, by kernel_rfl⟩, ⟨by kernel_rfl, by kernel_rfl⟩, ⟨by kernel_rfl, by kernel_rfl⟩, ⟨by kernel_rfl, by kernel_rfl⟩, ⟨by kernel_rfl, by kernel_rfl⟩, ⟨by kernel_rfl, by kernel_rfl⟩, ⟨by kernel_rfl, by kernel_rfl⟩, trivial⟩

def Tryz.lay16 : Lay := [(147, ⟨.struct [(0, 146), (1, 3), (2, 3)], 3, 24, .agg #[.map none, .int .i64 (0), .int .i64 (0)]⟩),
 (158, ⟨.other, 1, 8, .nilFunc⟩),
 (161, ⟨.other, 1, 8, .nilFunc⟩),
 (165, ⟨.struct [(0, 3), (1, 3), (2, 3), (3, 3)], 4, 32, .agg #[.int .i64 (0), .int .i64 (0), .int .i64 (0), .int .i64 (0)]⟩),
 (169, ⟨.other, 1, 8, .nilFunc⟩),
 (173, ⟨.other, 1, 8, .nilFunc⟩),
 (182, ⟨.other, 1, 8, .nilFunc⟩),
 (194, ⟨.other, 1, 8, .nilFunc⟩),
 (210, ⟨.other, 1, 8, .nilFunc⟩),
 (212, ⟨.other, 1, 8, .nilFunc⟩),
 (221, ⟨.other, 1, 8, .nilFunc⟩),
 (222, ⟨.other, 1, 8, .nilFunc⟩)]

theorem Tryz.okLay16 : LayOk Tryz.prog Tryz.lay16 := ⟨⟨by kernel_rfl, by kernel_rfl⟩, ⟨by kernel_rfl, by kernel_rfl⟩, ⟨by kernel_rfl, by kernel_rfl⟩, ⟨by kernel_rfl, by kernel_rfl⟩, ⟨by kernel_rfl, by kernel_rfl⟩, ⟨by kernel_rfl, by kernel_rfl⟩, ⟨by kernel_rfl, by kernel_rfl⟩, ⟨by kernel_rfl, by kernel_rfl⟩, ⟨by kernel_rfl, by kernel_rfl⟩, ⟨by kernel_rfl, by kernel_rfl⟩, ⟨by kernel_rfl, by kernel_rfl⟩, ⟨by kernel_rfl, by kernel_rfl⟩, trivial⟩

def Tryz.lay17 : Lay := [(227, ⟨.other, 1, 8, .nilFunc⟩),
 (228, ⟨.other, 1, 8, .nilFunc⟩),
 (245, ⟨.other, 1, 8, .nilFunc⟩),
 (272, ⟨.other, 1, 8, .nilFunc⟩),
 (276, ⟨.other, 1, 8, .nilFunc⟩),
 (285, ⟨.other, 1, 8, .nilFunc⟩),
 (286, ⟨.other, 1, 8, .nilFunc⟩),
 (304, ⟨.other, 1, 8, .nilFunc⟩),
 (94, ⟨.other, 1, 8, .nilFunc⟩),
 (97, ⟨.struct [(0, 3), (1, 3), (2, 3)], 3, 24, .agg #[.int .i64 (0), .int .i64 (0), .int .i64 (0)]⟩),
 (101, ⟨.struct [(0, 3), (1, 3), (2, 3), (3, 3)], 4, 32, .agg #[.int .i64 (0), .int .i64 (0), .int .i64 (0), .int .i64 (0)]⟩),
 (106, ⟨.struct [(0, 103), (1, 104), (2, 105), (3, 3)], 4, 80, .agg #[.slice none 0 0, .slice none 0 0, .slice none 0 0, .int .i64 (0)]⟩)]

theorem Tryz.okLay17 : LayOk Tryz.prog Tryz.lay17 := ⟨⟨by kernel_rfl, by kernel_rfl⟩, ⟨by kernel_rfl, by kernel_rfl⟩, ⟨by kernel_rfl, by kernel_rfl⟩, ⟨by kernel_rfl, by kernel_rfl⟩, ⟨by kernel_rfl, by kernel_rfl⟩, ⟨by kernel_rfl, by kernel_rfl⟩, ⟨by kernel_rfl, by kernel_rfl⟩, ⟨by kernel_rfl, by kernel_rfl⟩, ⟨by kernel_rfl, by kernel_rfl⟩, ⟨by kernel_rfl, by kernel_rfl⟩, ⟨by kernel_rfl, by kernel_rfl⟩, ⟨by kernel_rfl, by kernel_rfl⟩, trivial⟩

def Tryz.lay18 : Lay := [(117, ⟨.other, 1, 8, .nilFunc⟩),
 (118, ⟨.other, 1, 8, .nilFunc⟩),
 (135, ⟨.other, 1, 8, .nilFunc⟩),
 (149, ⟨.other, 1, 8, .nilFunc⟩),
 (150, ⟨.other, 1, 8, .nilFunc⟩),
 (179, ⟨.other, 1, 8, .nilFunc⟩),
 (204, ⟨.other, 1, 8, .nilFunc⟩),
 (217, ⟨.other, 1, 8, .nilFunc⟩),
 (247, ⟨.other, 1, 8, .nilFunc⟩),
 (259, ⟨.other, 1, 8, .nilFunc⟩),
 (268, ⟨.other, 1, 8, .nilFunc⟩),
 (292, ⟨.other, 1, 8, .nilFunc⟩)]

theorem Tryz.okLay18 : LayOk Tryz.prog Tryz.lay18 := ⟨⟨by kernel_rfl, by kernel_rfl⟩, ⟨by kernel_rfl, by kernel_rfl⟩, ⟨by kernel_rfl, by kernel_rfl⟩, ⟨by kernel_rfl, by kernel_rfl⟩, ⟨by kernel_rfl, by kernel_rfl⟩, ⟨by kernel_rfl, by kernel_rfl⟩, ⟨by kernel_rfl, by kernel_rfl⟩, ⟨by kernel_rfl, by kernel_rfl⟩, ⟨by kernel_rfl, by kernel_rfl⟩, ⟨by kernel_rfl, by kernel_rfl⟩, ⟨by kernel_rfl, by kernel_rfl⟩, ⟨by kernel_rfl, by kernel_rfl⟩, trivial⟩

def Tryz.lay19 : Lay := [(297, ⟨.other, 1, 8, .nilFunc⟩),
 (301, ⟨.other, 1, 8, .nilFunc⟩),
 (163, ⟨.other, 1, 8, .nilFunc⟩),
 (171, ⟨.other, 1, 8, .nilFunc⟩),
 (172, ⟨.other, 1, 8, .nilFunc⟩),
 (174, ⟨.struct [(0, 3), (1, 3), (2, 24), (3, 24)], 4, 64, .agg #[.int .i64 (0), .int .i64 (0), .slice none 0 0, .slice none 0 0]⟩),
 (207, ⟨.other, 1, 8, .nilFunc⟩),
 (215, ⟨.other, 1, 8, .nilFunc⟩),
 (216, ⟨.other, 1, 8, .nilFunc⟩),
 (224, ⟨.other, 1, 8, .nilFunc⟩),
 (226, ⟨.other, 1, 8, .nilFunc⟩),
 (229, ⟨.other, 1, 8, .nilFunc⟩)]

theorem Tryz.okLay19 : LayOk Tryz.prog Tryz.lay19 := ⟨⟨by kernel_rfl, by kernel_rfl⟩, ⟨by kernel_rfl, by kernel_rfl⟩, ⟨by kernel_rfl, by kernel_rfl⟩, ⟨by kernel_rfl, by kernel_rfl⟩, ⟨by kernel_rfl, by kernel_rfl⟩, ⟨by kernel_rfl, by kernel_rfl⟩, ⟨by kernel_rfl, by kernel_rfl⟩, ⟨by kernel_rfl, by kernel_rfl⟩, ⟨by kernel_rfl, by kernel_rfl⟩, ⟨by kernel_rfl, by kernel_rfl⟩, ⟨by kernel_rfl, by kernel_rfl⟩, ⟨by kernel_rfl, by kernel_rfl⟩, trivial⟩

def Tryz.lay20 : Lay := [(235, ⟨.other, 1, 8, .nilFunc⟩),
 (244, ⟨.struct [(0, 3), (1, 3), (2, 3), (3, 3)], 4, 32, .agg #[.int .i64 (0), .int .i64 (0), .int .i64 (0), .int .i64 (0)]⟩),
 (249, ⟨.other, 1, 8, .nilFunc⟩),
 (269, ⟨.other, 1, 8, .nilFunc⟩),
 (275, ⟨.other, 1, 8, .nilFunc⟩),
 (283, ⟨.other, 1, 8, .nilFunc⟩),
 (284, ⟨.other, 1, 8, .nilFunc⟩),
 (290, ⟨.other, 1, 8, .nilFunc⟩),
 (296, ⟨.other, 1, 8, .nilFunc⟩),
 (299, ⟨.other, 1, 8, .nilFunc⟩),
 (305, ⟨.other, 1, 8, .nilFunc⟩),
 (309, ⟨.array 0 16, 0, 0, .agg #[]⟩)]

theorem Tryz.okLay20 : LayOk Tryz.prog Tryz.lay20 := ⟨⟨by kernel_rfl, by kernel_rfl⟩, ⟨by kernel_rfl, by kernel_rfl⟩, ⟨by kernel_rfl, by kernel_rfl⟩, ⟨by kernel_rfl, by kernel_rfl⟩, ⟨by kernel_rfl, by kernel_rfl⟩, ⟨by kernel_rfl, by kernel_rfl⟩, ⟨by kernel_rfl, by kernel_rfl⟩, ⟨by kernel_rfl, by kernel_rfl⟩, ⟨by kernel_rfl, by kernel_rfl⟩, ⟨by kernel_rfl, by kernel_rfl⟩, ⟨by kernel_rfl, by kernel_rfl⟩, ⟨by kernel_rfl, by kernel_rfl⟩, trivial⟩

def Tryz.lay21 : Lay := [(310, ⟨.struct [(0, 309)], 0, 0, .agg #[]⟩),
 (311, ⟨.struct [(0, 309)], 0, 0, .agg #[]⟩),
 (312, ⟨.int .u8, 1, 1, .int .u8 (0)⟩),
 (313, ⟨.int .u8, 1, 1, .int .u8 (0)⟩),
 (320, ⟨.other, 1, 8, .pointer none⟩),
 (69, ⟨.struct [(0, 3), (1, 3), (2, 3), (3, 3)], 4, 32, .agg #[.int .i64 (0), .int .i64 (0), .int .i64 (0), .int .i64 (0)]⟩),
 (167, ⟨.other, 1, 8, .nilFunc⟩),
 (189, ⟨.struct [(0, 23), (3, 55), (4, 99), (5, 186), (6, 187), (7, 188), (8, 107)], 12, 176, .agg #[.int .i64 (0), .int .i64 (0), .int .i64 (0), .slice none 0 0, .slice none 0 0, .map none, .map none, .map none, .slice none 0 0, .slice none 0 0, .slice none 0 0, .int .i64 (0)]⟩),
 (191, ⟨.other, 1, 8, .nilFunc⟩),
 (195, ⟨.struct [(0, 3), (1, 3), (2, 3)], 3, 24, .agg #[.int .i64 (0), .int .i64 (0), .int .i64 (0)]⟩),
 (233, ⟨.other, 1, 8, .nilFunc⟩),
 (241, ⟨.other, 1, 8, .nilFunc⟩)]

theorem Tryz.okLay21 : LayOk Tryz.prog Tryz.lay21 := ⟨⟨by kernel_rfl, by kernel_rfl⟩, ⟨by kernel_rfl, by kernel_rfl⟩, ⟨by kernel_rfl, by kernel_rfl⟩, ⟨by kernel_rfl, by kernel_rfl⟩, ⟨by kernel_rfl, by kernel_rfl⟩, ⟨by kernel_rfl, by kernel_rfl⟩, ⟨by kernel_rfl, by kernel_rfl⟩, ⟨by kernel_rfl, by kernel_rfl⟩, ⟨by kernel_rfl, by kernel_rfl⟩, ⟨by kernel_rfl, by kernel_rfl⟩, ⟨by kernel_rfl, by kernel_rfl⟩, ⟨by kernel_rfl, by kernel_rfl⟩, trivial⟩

def Tryz.lay22 : Lay := [(242, ⟨.other, 1, 8, .nilFunc⟩),
 (253, ⟨.other, 1, 8, .nilFunc⟩),
 (257, ⟨.other, 1, 8, .nilFunc⟩),
 (258, ⟨.other, 1, 8, .nilFunc⟩),
 (260, ⟨.struct [(0, 3), (1, 3)], 2, 16, .agg #[.int .i64 (0), .int .i64 (0)]⟩),
 (265, ⟨.other, 1, 8, .nilFunc⟩),
 (271, ⟨.other, 1, 8, .nilFunc⟩),
 (273, ⟨.other, 1, 8, .nilFunc⟩),
 (282, ⟨.other, 1, 8, .nilFunc⟩),
 (287, ⟨.other, 1, 8, .nilFunc⟩),
 (293, ⟨.other, 1, 8, .nilFunc⟩),
 (298, ⟨.other, 1, 8, .nilFunc⟩)]

theorem Tryz.okLay22 : LayOk Tryz.prog Tryz.lay22 := ⟨⟨by kernel_rfl, by kernel_rfl⟩, ⟨by kernel_rfl, by kernel_rfl⟩, ⟨by kernel_rfl, by kernel_rfl⟩, ⟨by kernel_rfl, by kernel_rfl⟩, ⟨by kernel_rfl, by kernel_rfl⟩, ⟨by kernel_rfl, by kernel_rfl⟩, ⟨by kernel_rfl, by kernel_rfl⟩, ⟨by kernel_rfl, by kernel_rfl⟩, ⟨by kernel_rfl, by kernel_rfl⟩, ⟨by kernel_rfl, by kernel_rfl⟩, ⟨by kernel_rfl, by kernel_rfl⟩, ⟨by kernel_rfl, by kernel_rfl⟩, trivial⟩

def Tryz.lay23 : Lay := [(314, ⟨.other, 1, 8, .nilFunc⟩),
 (316, ⟨.int .i32, 1, 4, .int .i32 (0)⟩),
 (317, ⟨.int .i32, 1, 4, .int .i32 (0)⟩),
 (319, ⟨.struct [(0, 12), (1, 12), (2, 251), (3, 312), (4, 5), (5, 5), (6, 313), (7, 314), (8, 315), (9, 316), (10, 317)], 11, 48, .agg #[.int .u64 (0), .int .u64 (0), .int .u32 (0), .int .u8 (0), .int .u8 (0), .int .u8 (0), .int .u8 (0), .nilFunc, .pointer none, .int .i32 (0), .int .i32 (0)]⟩),
 (198, ⟨.struct [(0, 24)], 1, 24, .agg #[.slice none 0 0]⟩),
 (213, ⟨.struct [(0, 3), (1, 3)], 2, 16, .agg #[.int .i64 (0), .int .i64 (0)]⟩),
 (238, ⟨.struct [(0, 3), (1, 237)], 2, 16, .agg #[.int .i64 (0), .nilFunc]⟩),
 (243, ⟨.struct [(0, 3), (1, 3), (2, 3), (3, 3)], 4, 32, .agg #[.int .i64 (0), .int .i64 (0), .int .i64 (0), .int .i64 (0)]⟩),
 (266, ⟨.other, 1, 8, .nilFunc⟩),
 (289, ⟨.other, 1, 8, .nilFunc⟩),
 (318, ⟨.struct [(0, 12), (1, 12), (2, 251), (3, 312), (4, 5), (5, 5), (6, 313), (7, 314), (8, 315), (9, 316), (10, 317)], 11, 48, .agg #[.int .u64 (0), .int .u64 (0), .int .u32 (0), .int .u8 (0), .int .u8 (0), .int .u8 (0), .int .u8 (0), .nilFunc, .pointer none, .int .i32 (0), .int .i32 (0)]⟩),
 (315, ⟨.pointer, 1, 8, .pointer none⟩)]

theorem Tryz.okLay23 : LayOk Tryz.prog Tryz.lay23 := ⟨⟨by kernel_rfl, by kernel_rfl⟩, ⟨by kernel_rfl, by kernel_rfl⟩, ⟨by kernel_rfl, by kernel_rfl⟩, ⟨by kernel_rfl, by kernel_rfl⟩, ⟨by kernel_rfl, by kernel_rfl⟩, ⟨by kernel_rfl, by kernel_rfl⟩, ⟨by kernel_rfl, by kernel_rfl⟩, ⟨by kernel_rfl, by kernel_rfl⟩, ⟨by kernel_rfl, by kernel_rfl⟩, ⟨by kernel_rfl, by kernel_rfl⟩, ⟨by kernel_rfl, by kernel_rfl⟩, ⟨by kernel_rfl, by kernel_rfl⟩, trivial⟩

theorem LayOk.app {P : Program} : ∀ {A B : Lay}, LayOk P A → LayOk P B → LayOk P (A ++ B)
 | [], _, _, h => h
 | _ :: _, _, ⟨h1, h2⟩, h => ⟨h1, LayOk.app h2 h⟩

def Tryz.lay : Lay := [(1, ⟨.other, 1, 8, .nilFunc⟩),
 (3, ⟨.int .i64, 1, 8, .int .i64 (0)⟩),
 (4, ⟨.bool, 1, 1, .bool false⟩),
 (2, ⟨.int .i64, 1, 8, .int .i64 (0)⟩),
 (8, ⟨.struct [(0, 2), (1, 3), (2, 4), (3, 6)], 4, 24, .agg #[.int .i64 (0), .int .i64 (0), .bool false, .int .u8 (0)]⟩),
 (24, ⟨.slice 3, 1, 24, .slice none 0 0⟩),
 (28, ⟨.int .i64, 1, 8, .int .i64 (0)⟩),
 (5, ⟨.int .u8, 1, 1, .int .u8 (0)⟩),
 (6, ⟨.int .u8, 1, 1, .int .u8 (0)⟩),
 (39, ⟨.struct [(0, 36), (1, 3), (2, 37)], 3, 56, .agg #[.slice none 0 0, .int .i64 (0), .slice none 0 0]⟩),
 (7, ⟨.struct [(0, 2), (1, 3), (2, 4), (3, 6)], 4, 24, .agg #[.int .i64 (0), .int .i64 (0), .bool false, .int .u8 (0)]⟩),
 (84, ⟨.slice 98, 1, 24, .slice none 0 0⟩),
 (26, ⟨.struct [(0, 23), (3, 3), (4, 3), (5, 3), (6, 3), (7, 24)], 8, 80, .agg #[.int .i64 (0), .int .i64 (0), .int .i64 (0), .int .i64 (0), .int .i64 (0), .int .i64 (0), .int .i64 (0), .slice none 0 0]⟩),
 (70, ⟨.struct [(0, 3), (1, 3), (2, 3), (3, 3)], 4, 32, .agg #[.int .i64 (0), .int .i64 (0), .int .i64 (0), .int .i64 (0)]⟩),
 (98, ⟨.struct [(0, 3), (1, 3), (2, 3)], 3, 24, .agg #[.int .i64 (0), .int .i64 (0), .int .i64 (0)]⟩),
 (57, ⟨.struct [(0, 24), (1, 24), (2, 42), (9, 54), (10, 55), (11, 24), (12, 3), (13, 3), (14, 3)], 15, 280, .agg #[.slice none 0 0, .slice none 0 0, .slice none 0 0, .int .i64 (0), .slice none 0 0, .slice none 0 0, .slice none 0 0, .slice none 0 0, .bool false, .slice none 0 0, .slice none 0 0, .slice none 0 0, .int .i64 (0), .int .i64 (0), .int .i64 (0)]⟩),
 (23, ⟨.struct [(0, 3), (1, 3), (2, 3)], 3, 24, .agg #[.int .i64 (0), .int .i64 (0), .int .i64 (0)]⟩),
 (33, ⟨.struct [(0, 31), (3, 3), (4, 3), (5, 3), (6, 3), (7, 24)], 8, 80, .agg #[.int .i64 (0), .int .i64 (0), .int .i64 (0), .int .i64 (0), .int .i64 (0), .int .i64 (0), .int .i64 (0), .slice none 0 0]⟩),
 (254, ⟨.int .u64, 1, 8, .int .u64 (0)⟩),
 (42, ⟨.struct [(0, 39), (3, 24), (4, 24), (5, 24), (6, 4)], 7, 136, .agg #[.slice none 0 0, .int .i64 (0), .slice none 0 0, .slice none 0 0, .slice none 0 0, .slice none 0 0, .bool false]⟩),
 (15, ⟨.pointer, 1, 8, .pointer none⟩),
 (16, ⟨.pointer, 1, 8, .pointer none⟩),
 (31, ⟨.struct [(0, 3), (1, 3), (2, 3)], 3, 24, .agg #[.int .i64 (0), .int .i64 (0), .int .i64 (0)]⟩),
 (12, ⟨.int .u64, 1, 8, .int .u64 (0)⟩),
 (123, ⟨.pointer, 1, 8, .pointer none⟩),
 (74, ⟨.struct [(0, 3), (1, 3), (2, 3), (3, 3), (4, 3), (5, 3), (6, 3), (7, 3)], 8, 64, .agg #[.int .i64 (0), .int .i64 (0), .int .i64 (0), .int .i64 (0), .int .i64 (0), .int .i64 (0), .int .i64 (0), .int .i64 (0)]⟩),
 (205, ⟨.int .u64, 1, 8, .int .u64 (0)⟩),
 (177, ⟨.slice 178, 1, 24, .slice none 0 0⟩),
 (36, ⟨.slice 74, 1, 24, .slice none 0 0⟩),
 (37, ⟨.slice 70, 1, 24, .slice none 0 0⟩),
 (153, ⟨.struct [(0, 3), (1, 3), (2, 24), (3, 24)], 4, 64, .agg #[.int .i64 (0), .int .i64 (0), .slice none 0 0, .slice none 0 0]⟩),
 (261, ⟨.struct [(0, 3), (1, 3)], 2, 16, .agg #[.int .i64 (0), .int .i64 (0)]⟩),
 (63, ⟨.struct [(0, 24), (1, 24), (2, 45), (9, 60), (10, 61), (11, 24), (12, 3), (13, 3), (14, 3)], 15, 280, .agg #[.slice none 0 0, .slice none 0 0, .slice none 0 0, .int .i64 (0), .slice none 0 0, .slice none 0 0, .slice none 0 0, .slice none 0 0, .bool false, .slice none 0 0, .slice none 0 0, .slice none 0 0, .int .i64 (0), .int .i64 (0), .int .i64 (0)]⟩),
 (178, ⟨.struct [(0, 3), (1, 3), (2, 3)], 3, 24, .agg #[.int .i64 (0), .int .i64 (0), .int .i64 (0)]⟩),
 (218, ⟨.other, 1, 8, .nilFunc⟩),
 (45, ⟨.struct [(0, 39), (3, 24), (4, 24), (5, 24), (6, 4)], 7, 136, .agg #[.slice none 0 0, .int .i64 (0), .slice none 0 0, .slice none 0 0, .slice none 0 0, .slice none 0 0, .bool false]⟩),
 (71, ⟨.other, 1, 8, .nilFunc⟩),
 (166, ⟨.slice 175, 1, 24, .slice none 0 0⟩),
 (185, ⟨.pointer, 1, 8, .pointer none⟩),
 (251, ⟨.int .u32, 1, 4, .int .u32 (0)⟩),
 (55, ⟨.slice 84, 1, 24, .slice none 0 0⟩),
 (17, ⟨.pointer, 1, 8, .pointer none⟩),
 (107, ⟨.struct [(0, 103), (1, 104), (2, 105), (3, 3)], 4, 80, .agg #[.slice none 0 0, .slice none 0 0, .slice none 0 0, .int .i64 (0)]⟩),
 (27, ⟨.other, 1, 8, .nilFunc⟩),
 (197, ⟨.pointer, 1, 8, .pointer none⟩),
 (102, ⟨.struct [(0, 3), (1, 3), (2, 3), (3, 3)], 4, 32, .agg #[.int .i64 (0), .int .i64 (0), .int .i64 (0), .int .i64 (0)]⟩),
 (190, ⟨.struct [(0, 23), (3, 55), (4, 99), (5, 186), (6, 187), (7, 188), (8, 107)], 12, 176, .agg #[.int .i64 (0), .int .i64 (0), .int .i64 (0), .slice none 0 0, .slice none 0 0, .map none, .map none, .map none, .slice none 0 0, .slice none 0 0, .slice none 0 0, .int .i64 (0)]⟩),
 (248, ⟨.pointer, 1, 8, .pointer none⟩),
 (196, ⟨.struct [(0, 3), (1, 3), (2, 3)], 3, 24, .agg #[.int .i64 (0), .int .i64 (0), .int .i64 (0)]⟩),
 (61, ⟨.slice 177, 1, 24, .slice none 0 0⟩),
 (142, ⟨.struct [(0, 26), (8, 39), (11, 140), (12, 140), (13, 24)], 14, 208, .agg #[.int .i64 (0), .int .i64 (0), .int .i64 (0), .int .i64 (0), .int .i64 (0), .int .i64 (0), .int .i64 (0), .slice none 0 0, .slice none 0 0, .int .i64 (0), .slice none 0 0, .slice none 0 0, .slice none 0 0, .slice none 0 0]⟩),
 (19, ⟨.struct [(0, 17)], 1, 8, .agg #[.pointer none]⟩),
 (25, ⟨.struct [(0, 23), (3, 3), (4, 3), (5, 3), (6, 3), (7, 24)], 8, 80, .agg #[.int .i64 (0), .int .i64 (0), .int .i64 (0), .int .i64 (0), .int .i64 (0), .int .i64 (0), .int .i64 (0), .slice none 0 0]⟩),
 (18, ⟨.struct [(0, 17)], 1, 8, .agg #[.pointer none]⟩),
 (32, ⟨.struct [(0, 31), (3, 3), (4, 3), (5, 3), (6, 3), (7, 24)], 8, 80, .agg #[.int .i64 (0), .int .i64 (0), .int .i64 (0), .int .i64 (0), .int .i64 (0), .int .i64 (0), .int .i64 (0), .slice none 0 0]⟩),
 (114, ⟨.other, 1, 8, .nilFunc⟩),
 (145, ⟨.pointer, 1, 8, .pointer none⟩),
 (132, ⟨.slice 202, 1, 24, .slice none 0 0⟩),
 (200, ⟨.other, 1, 8, .nilFunc⟩),
 (279, ⟨.int .i64, 1, 8, .int .i64 (0)⟩),
 (121, ⟨.other, 1, 8, .nilFunc⟩),
 (202, ⟨.struct [(0, 3), (1, 3)], 2, 16, .agg #[.int .i64 (0), .int .i64 (0)]⟩),
 (80, ⟨.slice 82, 1, 24, .slice none 0 0⟩),
 (53, ⟨.other, 1, 8, .nilFunc⟩),
 (40, ⟨.other, 1, 8, .nilFunc⟩),
 (99, ⟨.slice 102, 1, 24, .slice none 0 0⟩),
 (54, ⟨.slice 80, 1, 24, .slice none 0 0⟩),
 (82, ⟨.struct [(0, 3), (1, 3), (2, 3), (3, 3)], 4, 32, .agg #[.int .i64 (0), .int .i64 (0), .int .i64 (0), .int .i64 (0)]⟩),
 (122, ⟨.other, 1, 8, .nilFunc⟩),
 (170, ⟨.slice 166, 1, 24, .slice none 0 0⟩),
 (175, ⟨.struct [(0, 3), (1, 3), (2, 24), (3, 24)], 4, 64, .agg #[.int .i64 (0), .int .i64 (0), .slice none 0 0, .slice none 0 0]⟩),
 (294, ⟨.int .u64, 1, 8, .int .u64 (0)⟩),
 (48, ⟨.other, 1, 8, .nilFunc⟩),
 (51, ⟨.other, 1, 8, .nilFunc⟩),
 (155, ⟨.struct [(0, 3), (1, 3), (2, 24)], 3, 40, .agg #[.int .i64 (0), .int .i64 (0), .slice none 0 0]⟩),
 (130, ⟨.other, 1, 8, .nilFunc⟩),
 (143, ⟨.slice 155, 1, 24, .slice none 0 0⟩),
 (103, ⟨.slice 112, 1, 24, .slice none 0 0⟩),
 (140, ⟨.slice 24, 1, 24, .slice none 0 0⟩),
 (34, ⟨.other, 1, 8, .nilFunc⟩),
 (115, ⟨.other, 1, 8, .nilFunc⟩),
 (306, ⟨.other, 1, 8, .nilFunc⟩),
 (231, ⟨.struct [(0, 3), (1, 3), (2, 24)], 3, 40, .agg #[.int .i64 (0), .int .i64 (0), .slice none 0 0]⟩),
 (72, ⟨.other, 1, 8, .nilFunc⟩),
 (120, ⟨.pointer, 1, 8, .pointer none⟩),
 (126, ⟨.map 3 3, 1, 8, .map none⟩),
 (230, ⟨.slice 231, 1, 24, .slice none 0 0⟩),
 (20, ⟨.other, 1, 16, .nilIface⟩),
 (47, ⟨.other, 1, 8, .nilFunc⟩),
 (77, ⟨.map 79 3, 1, 8, .map none⟩),
 (86, ⟨.other, 1, 8, .nilFunc⟩),
 (144, ⟨.slice 145, 1, 24, .slice none 0 0⟩),
 (148, ⟨.struct [(0, 146), (1, 3), (2, 3)], 3, 24, .agg #[.map none, .int .i64 (0), .int .i64 (0)]⟩),
 (90, ⟨.other, 1, 8, .nilFunc⟩),
 (104, ⟨.slice 244, 1, 24, .slice none 0 0⟩),
 (214, ⟨.struct [(0, 3), (1, 3)], 2, 16, .agg #[.int .i64 (0), .int .i64 (0)]⟩),
 (256, ⟨.other, 1, 8, .nilFunc⟩),
 (291, ⟨.other, 1, 8, .nilFunc⟩),
 (112, ⟨.struct [(0, 3), (1, 3), (2, 3)], 3, 24, .agg #[.int .i64 (0), .int .i64 (0), .int .i64 (0)]⟩),
 (186, ⟨.map 3 24, 1, 8, .map none⟩),
 (199, ⟨.struct [(0, 24)], 1, 24, .agg #[.slice none 0 0]⟩),
 (300, ⟨.other, 1, 8, .nilFunc⟩),
 (21, ⟨.int .i32, 1, 4, .int .i32 (0)⟩),
 (52, ⟨.other, 1, 8, .nilFunc⟩),
 (68, ⟨.slice 4, 1, 24, .slice none 0 0⟩),
 (92, ⟨.other, 1, 8, .nilFunc⟩),
 (220, ⟨.other, 1, 8, .nilFunc⟩),
 (239, ⟨.struct [(0, 3), (1, 237)], 2, 16, .agg #[.int .i64 (0), .nilFunc]⟩),
 (22, ⟨.struct [(0, 3), (1, 3), (2, 3)], 3, 24, .agg #[.int .i64 (0), .int .i64 (0), .int .i64 (0)]⟩),
 (44, ⟨.other, 1, 8, .nilFunc⟩),
 (60, ⟨.slice 164, 1, 24, .slice none 0 0⟩),
 (73, ⟨.struct [(0, 3), (1, 3), (2, 3), (3, 3), (4, 3), (5, 3), (6, 3), (7, 3)], 8, 64, .agg #[.int .i64 (0), .int .i64 (0), .int .i64 (0), .int .i64 (0), .int .i64 (0), .int .i64 (0), .int .i64 (0), .int .i64 (0)]⟩),
 (79, ⟨.array 2 3, 2, 16, .agg #[.int .i64 (0), .int .i64 (0)]⟩),
 (88, ⟨.other, 1, 8, .nilFunc⟩),
 (125, ⟨.other, 1, 8, .nilFunc⟩),
 (134, ⟨.other, 1, 8, .nilFunc⟩),
 (139, ⟨.other, 1, 8, .nilFunc⟩),
 (49, ⟨.other, 1, 8, .nilFunc⟩),
 (56, ⟨.struct [(0, 24), (1, 24), (2, 42), (9, 54), (10, 55), (11, 24), (12, 3), (13, 3), (14, 3)], 15, 280, .agg #[.slice none 0 0, .slice none 0 0, .slice none 0 0, .int .i64 (0), .slice none 0 0, .slice none 0 0, .slice none 0 0, .slice none 0 0, .bool false, .slice none 0 0, .slice none 0 0, .slice none 0 0, .int .i64 (0), .int .i64 (0), .int .i64 (0)]⟩),
 (59, ⟨.other, 1, 8, .nilFunc⟩),
 (83, ⟨.other, 1, 8, .nilFunc⟩),
 (91, ⟨.other, 1, 8, .nilFunc⟩),
 (95, ⟨.other, 1, 8, .nilFunc⟩),
 (105, ⟨.slice 79, 1, 24, .slice none 0 0⟩),
 (109, ⟨.other, 1, 8, .nilFunc⟩),
 (129, ⟨.other, 1, 8, .nilFunc⟩),
 (138, ⟨.other, 1, 8, .nilFunc⟩),
 (152, ⟨.struct [(0, 3), (1, 3), (2, 24), (3, 24)], 4, 64, .agg #[.int .i64 (0), .int .i64 (0), .slice none 0 0, .slice none 0 0]⟩),
 (164, ⟨.slice 165, 1, 24, .slice none 0 0⟩),
 (208, ⟨.other, 1, 8, .nilFunc⟩),
 (67, ⟨.other, 1, 8, .nilFunc⟩),
 (96, ⟨.other, 1, 8, .nilFunc⟩),
 (100, ⟨.other, 1, 8, .nilFunc⟩),
 (110, ⟨.other, 1, 8, .nilFunc⟩),
 (113, ⟨.other, 1, 8, .nilFunc⟩),
 (136, ⟨.other, 1, 8, .nilFunc⟩),
 (156, ⟨.other, 1, 8, .nilFunc⟩),
 (176, ⟨.other, 1, 8, .nilFunc⟩),
 (180, ⟨.other, 1, 8, .nilFunc⟩),
 (187, ⟨.map 196 197, 1, 8, .map none⟩),
 (209, ⟨.other, 1, 8, .nilFunc⟩),
 (223, ⟨.other, 1, 8, .nilFunc⟩),
 (250, ⟨.other, 1, 8, .nilFunc⟩),
 (288, ⟨.other, 1, 8, .nilFunc⟩),
 (29, ⟨.other, 1, 8, .nilFunc⟩),
 (30, ⟨.other, 1, 8, .nilFunc⟩),
 (35, ⟨.other, 1, 8, .nilFunc⟩),
 (66, ⟨.other, 1, 8, .nilFunc⟩),
 (87, ⟨.other, 1, 8, .nilFunc⟩),
 (111, ⟨.struct [(0, 3), (1, 3), (2, 3)], 3, 24, .agg #[.int .i64 (0), .int .i64 (0), .int .i64 (0)]⟩),
 (151, ⟨.other, 1, 8, .nilFunc⟩),
 (181, ⟨.other, 1, 8, .nilFunc⟩),
 (184, ⟨.other, 1, 8, .nilFunc⟩),
 (188, ⟨.map 196 3, 1, 8, .map none⟩),
 (192, ⟨.other, 1, 8, .nilFunc⟩),
 (263, ⟨.other, 1, 8, .nilFunc⟩),
 (81, ⟨.struct [(0, 3), (1, 3), (2, 3), (3, 3)], 4, 32, .agg #[.int .i64 (0), .int .i64 (0), .int .i64 (0), .int .i64 (0)]⟩),
 (89, ⟨.other, 1, 8, .nilFunc⟩),
 (93, ⟨.other, 1, 8, .nilFunc⟩),
 (116, ⟨.other, 1, 8, .nilFunc⟩),
 (119, ⟨.other, 1, 8, .nilFunc⟩),
 (128, ⟨.other, 1, 8, .nilFunc⟩),
 (137, ⟨.other, 1, 8, .nilFunc⟩),
 (157, ⟨.other, 1, 8, .nilFunc⟩),
 (159, ⟨.other, 1, 8, .nilFunc⟩),
 (183, ⟨.other, 1, 8, .nilFunc⟩),
 (193, ⟨.other, 1, 8, .nilFunc⟩),
 (211, ⟨.other, 1, 8, .nilFunc⟩),
 (237, ⟨.other, 1, 8, .nilFunc⟩),
 (264, ⟨.other, 1, 8, .nilFunc⟩),
 (270, ⟨.other, 1, 8, .nilFunc⟩),
 (278, ⟨.other, 1, 8, .nilFunc⟩),
 (281, ⟨.other, 1, 8, .nilFunc⟩),
 (295, ⟨.other, 1, 8, .nilFunc⟩),
 (302, ⟨.pointer, 1, 8, .pointer none⟩),
 (41, ⟨.struct [(0, 39), (3, 24), (4, 24), (5, 24), (6, 4)], 7, 136, .agg #[.slice none 0 0, .int .i64 (0), .slice none 0 0, .slice none 0 0, .slice none 0 0, .slice none 0 0, .bool false]⟩),
 (65, ⟨.other, 1, 8, .nilFunc⟩),
 (131, ⟨.other, 1, 8, .nilFunc⟩),
 (133, ⟨.other, 1, 8, .nilFunc⟩),
 (146, ⟨.map 214 3, 1, 8, .map none⟩),
 (154, ⟨.struct [(0, 3), (1, 3), (2, 24)], 3, 40, .agg #[.int .i64 (0), .int .i64 (0), .slice none 0 0]⟩),
 (201, ⟨.struct [(0, 3), (1, 3)], 2, 16, .agg #[.int .i64 (0), .int .i64 (0)]⟩),
 (203, ⟨.other, 1, 8, .nilFunc⟩),
 (219, ⟨.other, 1, 8, .nilFunc⟩),
 (236, ⟨.other, 1, 8, .nilFunc⟩),
 (246, ⟨.other, 1, 8, .nilFunc⟩),
 (262, ⟨.other, 1, 8, .nilFunc⟩),
 (277, ⟨.other, 1, 8, .nilFunc⟩),
 (38, ⟨.struct [(0, 36), (1, 3), (2, 37)], 3, 56, .agg #[.slice none 0 0, .int .i64 (0), .slice none 0 0]⟩),
 (62, ⟨.struct [(0, 24), (1, 24), (2, 45), (9, 60), (10, 61), (11, 24), (12, 3), (13, 3), (14, 3)], 15, 280, .agg #[.slice none 0 0, .slice none 0 0, .slice none 0 0, .int .i64 (0), .slice none 0 0, .slice none 0 0, .slice none 0 0, .slice none 0 0, .bool false, .slice none 0 0, .slice none 0 0, .slice none 0 0, .int .i64 (0), .int .i64 (0), .int .i64 (0)]⟩),
 (76, ⟨.other, 1, 8, .nilFunc⟩),
 (141, ⟨.struct [(0, 26), (8, 39), (11, 140), (12, 140), (13, 24)], 14, 208, .agg #[.int .i64 (0), .int .i64 (0), .int .i64 (0), .int .i64 (0), .int .i64 (0), .int .i64 (0), .int .i64 (0), .slice none 0 0, .slice none 0 0, .int .i64 (0), .slice none 0 0, .slice none 0 0, .slice none 0 0, .slice none 0 0]⟩),
 (147, ⟨.struct [(0, 146), (1, 3), (2, 3)], 3, 24, .agg #[.map none, .int .i64 (0), .int .i64 (0)]⟩),
 (158, ⟨.other, 1, 8, .nilFunc⟩),
 (161, ⟨.other, 1, 8, .nilFunc⟩),
 (165, ⟨.struct [(0, 3), (1, 3), (2, 3), (3, 3)], 4, 32, .agg #[.int .i64 (0), .int .i64 (0), .int .i64 (0), .int .i64 (0)]⟩),
 (169, ⟨.other, 1, 8, .nilFunc⟩),
 (173, ⟨.other, 1, 8, .nilFunc⟩),
 (182, ⟨.other, 1, 8, .nilFunc⟩),
 (194, ⟨.other, 1, 8, .nilFunc⟩),
 (210, ⟨.other, 1, 8, .nilFunc⟩),
 (212, ⟨.other, 1, 8, .nilFunc⟩),
 (221, ⟨.other, 1, 8, .nilFunc⟩),
 (222, ⟨.other, 1, 8, .nilFunc⟩),
 (227, ⟨.other, 1, 8, .nilFunc⟩),
 (228, ⟨.other, 1, 8, .nilFunc⟩),
 (245, ⟨.other, 1, 8, .nilFunc⟩),
 (272, ⟨.other, 1, 8, .nilFunc⟩),
 (276, ⟨.other, 1, 8, .nilFunc⟩),
 (285, ⟨.other, 1, 8, .nilFunc⟩),
 (286, ⟨.other, 1, 8, .nilFunc⟩),
 (304, ⟨.other, 1, 8, .nilFunc⟩),
 (94, ⟨.other, 1, 8, .nilFunc⟩),
 (97, ⟨.struct [(0, 3), (1, 3), (2, 3)], 3, 24, .agg #[.int .i64 (0), .int .i64 (0), .int .i64 (0)]⟩),
 (101, ⟨.struct [(0, 3), (1, 3), (2, 3), (3, 3)], 4, 32, .agg #[.int .i64 (0), .int .i64 (0), .int .i64 (0), .int .i64 (0)]⟩),
 (106, ⟨.struct [(0, 103), (1, 104), (2, 105), (3, 3)], 4, 80, .agg #[.slice none 0 0, .slice none 0 0, .slice none 0 0, .int .i64 (0)]⟩),
 (117, ⟨.other, 1, 8, .nilFunc⟩),
 (118, ⟨.other, 1, 8, .nilFunc⟩),
 (135, ⟨.other, 1, 8, .nilFunc⟩),
 (149, ⟨.other, 1, 8, .nilFunc⟩),
 (150, ⟨.other, 1, 8, .nilFunc⟩),
 (179, ⟨.other, 1, 8, .nilFunc⟩),
 (204, ⟨.other, 1, 8, .nilFunc⟩),
 (217, ⟨.other, 1, 8, .nilFunc⟩),
 (247, ⟨.other, 1, 8, .nilFunc⟩),
 (259, ⟨.other, 1, 8, .nilFunc⟩),
 (268, ⟨.other, 1, 8, .nilFunc⟩),
 (292, ⟨.other, 1, 8, .nilFunc⟩),
 (297, ⟨.other, 1, 8, .nilFunc⟩),
 (301, ⟨.other, 1, 8, .nilFunc⟩),
 (163, ⟨.other, 1, 8, .nilFunc⟩),
 (171, ⟨.other, 1, 8, .nilFunc⟩),
 (172, ⟨.other, 1, 8, .nilFunc⟩),
 (174, ⟨.struct [(0, 3), (1, 3), (2, 24), (3, 24)], 4, 64, .agg #[.int .i64 (0), .int .i64 (0), .slice none 0 0, .slice none 0 0]⟩),
 (207, ⟨.other, 1, 8, .nilFunc⟩),
 (215, ⟨.other, 1, 8, .nilFunc⟩),
 (216, ⟨.other, 1, 8, .nilFunc⟩),
 (224, ⟨.other, 1, 8, .nilFunc⟩),
 (226, ⟨.other, 1, 8, .nilFunc⟩),
 (229, ⟨.other, 1, 8, .nilFunc⟩),
 (235, ⟨.other, 1, 8, .nilFunc⟩),
 (244, ⟨.struct [(0, 3), (1, 3), (2, 3), (3, 3)], 4, 32, .agg #[.int .i64 (0), .int .i64 (0), .int .i64 (0), .int .i64 (0)]⟩),
 (249, ⟨.other, 1, 8, .nilFunc⟩),
 (269, ⟨.other, 1, 8, .nilFunc⟩),
 (275, ⟨.other, 1, 8, .nilFunc⟩),
 (283, ⟨.other, 1, 8, .nilFunc⟩),
 (284, ⟨.other, 1, 8, .nilFunc⟩),
 (290, ⟨.other, 1, 8, .nilFunc⟩),
 (296, ⟨.other, 1, 8, .nilFunc⟩),
 (299, ⟨.other, 1, 8, .nilFunc⟩),
 (305, ⟨.other, 1, 8, .nilFunc⟩),
 (309, ⟨.array 0 16, 0, 0, .agg #[]⟩),
 (310, ⟨.struct [(0, 309)], 0, 0, .agg #[]⟩),
 (311, ⟨.struct [(0, 309)], 0, 0, .agg #[]⟩),
 (312, ⟨.int .u8, 1, 1, .int .u8 (0)⟩),
 (313, ⟨.int .u8, 1, 1, .int .u8 (0)⟩),
 (320, ⟨.other, 1, 8, .pointer none⟩),
 (69, ⟨.struct [(0, 3), (1, 3), (2, 3), (3, 3)], 4, 32, .agg #[.int .i64 (0), .int .i64 (0), .int .i64 (0), .int .i64 (0)]⟩),
 (167, ⟨.other, 1, 8, .nilFunc⟩),
 (189, ⟨.struct [(0, 23), (3, 55), (4, 99), (5, 186), (6, 187), (7, 188), (8, 107)], 12, 176, .agg #[.int .i64 (0), .int .i64 (0), .int .i64 (0), .slice none 0 0, .slice none 0 0, .map none, .map none, .map none, .slice none 0 0, .slice none 0 0, .slice none 0 0, .int .i64 (0)]⟩),
 (191, ⟨.other, 1, 8, .nilFunc⟩),
 (195, ⟨.struct [(0, 3), (1, 3), (2, 3)], 3, 24, .agg #[.int .i64 (0), .int .i64 (0), .int .i64 (0)]⟩),
 (233, ⟨.other, 1, 8, .nilFunc⟩),
 (241, ⟨.other, 1, 8, .nilFunc⟩),
 (242, ⟨.other, 1, 8, .nilFunc⟩),
 (253, ⟨.other, 1, 8, .nilFunc⟩),
 (257, ⟨.other, 1, 8, .nilFunc⟩),
 (258, ⟨.other, 1, 8, .nilFunc⟩),
 (260, ⟨.struct [(0, 3), (1, 3)], 2, 16, .agg #[.int .i64 (0), .int .i64 (0)]⟩),
 (265, ⟨.other, 1, 8, .nilFunc⟩),
 (271, ⟨.other, 1, 8, .nilFunc⟩),
 (273, ⟨.other, 1, 8, .nilFunc⟩),
 (282, ⟨.other, 1, 8, .nilFunc⟩),
 (287, ⟨.other, 1, 8, .nilFunc⟩),
 (293, ⟨.other, 1, 8, .nilFunc⟩),
 (298, ⟨.other, 1, 8, .nilFunc⟩),
 (314, ⟨.other, 1, 8, .nilFunc⟩),
 (316, ⟨.int .i32, 1, 4, .int .i32 (0)⟩),
 (317, ⟨.int .i32, 1, 4, .int .i32 (0)⟩),
 (319, ⟨.struct [(0, 12), (1, 12), (2, 251), (3, 312), (4, 5), (5, 5), (6, 313), (7, 314), (8, 315), (9, 316), (10, 317)], 11, 48, .agg #[.int .u64 (0), .int .u64 (0), .int .u32 (0), .int .u8 (0), .int .u8 (0), .int .u8 (0), .int .u8 (0), .nilFunc, .pointer none, .int .i32 (0), .int .i32 (0)]⟩),
 (198, ⟨.struct [(0, 24)], 1, 24, .agg #[.slice none 0 0]⟩),
 (213, ⟨.struct [(0, 3), (1, 3)], 2, 16, .agg #[.int .i64 (0), .int .i64 (0)]⟩),
 (238, ⟨.struct [(0, 3), (1, 237)], 2, 16, .agg #[.int .i64 (0), .nilFunc]⟩),
 (243, ⟨.struct [(0, 3), (1, 3), (2, 3), (3, 3)], 4, 32, .agg #[.int .i64 (0), .int .i64 (0), .int .i64 (0), .int .i64 (0)]⟩),
 (266, ⟨.other, 1, 8, .nilFunc⟩),
 (289, ⟨.other, 1, 8, .nilFunc⟩),
 (318, ⟨.struct [(0, 12), (1, 12), (2, 251), (3, 312), (4, 5), (5, 5), (6, 313), (7, 314), (8, 315), (9, 316), (10, 317)], 11, 48, .agg #[.int .u64 (0), .int .u64 (0), .int .u32 (0), .int .u8 (0), .int .u8 (0), .int .u8 (0), .int .u8 (0), .nilFunc, .pointer none, .int .i32 (0), .int .i32 (0)]⟩),
 (315, ⟨.pointer, 1, 8, .pointer none⟩)]

theorem Tryz.okLay : LayOk Tryz.prog Tryz.lay := (LayOk.app Tryz.okLay0 (LayOk.app Tryz.okLay1 (LayOk.app Tryz.okLay2 (LayOk.app Tryz.okLay3 (LayOk.app Tryz.okLay4 (LayOk.app Tryz.okLay5 (LayOk.app Tryz.okLay6 (LayOk.app Tryz.okLay7 (LayOk.app Tryz.okLay8 (LayOk.app Tryz.okLay9 (LayOk.app Tryz.okLay10 (LayOk.app Tryz.okLay11 (LayOk.app Tryz.okLay12 (LayOk.app Tryz.okLay13 (LayOk.app Tryz.okLay14 (LayOk.app Tryz.okLay15 (LayOk.app Tryz.okLay16 (LayOk.app Tryz.okLay17 (LayOk.app Tryz.okLay18 (LayOk.app Tryz.okLay19 (LayOk.app Tryz.okLay20 (LayOk.app Tryz.okLay21 (LayOk.app Tryz.okLay22 (LayOk.app Tryz.okLay23 (trivial : LayOk Tryz.prog [])))))))))))))))))))))))))

def Tryz.fns : List Nat := [2, 3, 4, 5, 6, 7, 8, 9, 10, 11, 12, 13, 14, 15, 16, 17, 18, 19, 20, 21, 22, 23, 24, 25, 26, 27, 28, 29, 30, 31, 32, 33, 34, 35, 36, 37, 38, 39, 40, 41, 42, 43, 44, 45, 46, 47, 48, 49, 50, 51, 52, 53, 54, 55, 56, 57, 58, 59, 60, 61, 62, 63, 64, 65, 66, 67, 68, 69, 70, 71, 72, 73, 74, 75, 76, 77, 78, 79, 80, 81, 82, 83, 84, 85, 86, 87, 88, 89, 90, 91, 92, 93, 94, 95, 96, 97, 98, 99, 100, 101, 102, 103, 104, 105, 106, 107, 108, 109, 110, 111, 112, 113, 114, 115, 116, 117, 118, 119, 120, 121, 122, 123, 124, 125, 126, 127, 128, 129, 130, 131, 132, 133, 134, 135, 136, 137, 138, 139, 140, 141, 142, 143, 144, 145, 146, 147, 148, 149, 150, 151, 152, 153, 154, 155, 156, 157, 158, 159, 160, 161, 162, 163, 164, 165, 166, 167, 168, 169, 170, 171, 172, 173, 174, 175, 176, 177, 178, 179, 180, 181, 182, 183, 184, 185, 186, 187, 188, 189, 190, 191, 192, 193, 194, 195, 196, 197, 198, 199, 200, 201, 202, 203, 204, 205, 206, 207, 208, 209, 210, 211]

theorem FnOk.cons {P : Program} {f : Nat} {l : List Nat} {fn : Func} (h1 : P.funcs[f]? = some fn) (h2 : fn.body.isNone = false) (h3 : (fn.name == "runtime.NumGoroutine") = false)
  (h : ∀ f ∈ l, ∃ fn, P.funcs[f]? = some fn ∧ fn.body.isNone = false ∧ (fn.name == "runtime.NumGoroutine") = false) : ∀ g ∈ f :: l, ∃ fn, P.funcs[g]? = some fn ∧ fn.body.isNone = false ∧ (fn.name == "runtime.NumGoroutine") = false := by
 intro g hg
 rcases List.mem_cons.1 hg with rfl | hg
 ·exact ⟨fn, h1, h2, h3⟩
 ·exact h g hg

theorem Tryz.okF10 : ∀ f ∈ ([202, 203, 204, 205, 206, 207, 208, 209, 210, 211] : List Nat), ∃ fn, Tryz.prog.funcs[f]? = some fn ∧ fn.body.isNone = false ∧ (fn.name == "runtime.NumGoroutine") = false :=
 (FnOk.cons Tryz.func202 rfl (by kernel_rfl) (FnOk.cons Tryz.func203 rfl (by kernel_rfl) (FnOk.cons Tryz.func204 rfl (by kernel_rfl) (FnOk.cons Tryz.func205 rfl (by kernel_rfl) (FnOk.cons Tryz.func206 rfl (by kernel_rfl) (FnOk.cons Tryz.func207 rfl (by kernel_rfl) (FnOk.cons Tryz.func208 rfl (by kernel_rfl) (FnOk.cons Tryz.func209 rfl (by kernel_rfl) (FnOk.cons Tryz.func210 rfl (by kernel_rfl) (FnOk.cons Tryz.func211 rfl (by kernel_rfl) (fun _ h => by cases h)))))))))))

theorem Tryz.okF9 : ∀ f ∈ ([182, 183, 184, 185, 186, 187, 188, 189, 190, 191, 192, 193, 194, 195, 196, 197, 198, 199, 200, 201, 202, 203, 204, 205, 206, 207, 208, 209, 210, 211] : List Nat), ∃ fn, Tryz.prog.funcs[f]? = some fn ∧ fn.body.isNone = false ∧ (fn.name == "runtime.NumGoroutine") = false :=
 (FnOk.cons Tryz.func182 rfl (by kernel_rfl) (FnOk.cons Tryz.func183 rfl (by kernel_rfl) (FnOk.cons Tryz.func184 rfl (by kernel_rfl) (FnOk.cons Tryz.func185 rfl (by kernel_rfl) (FnOk.cons Tryz.func186 rfl (by kernel_rfl) (FnOk.cons Tryz.func187 rfl (by kernel_rfl) (FnOk.cons Tryz.func188 rfl (by kernel_rfl) (FnOk.cons Tryz.func189 rfl (by kernel_rfl) (FnOk.cons Tryz.func190 rfl (by kernel_rfl) (FnOk.cons Tryz.func191 rfl (by kernel_rfl) (FnOk.cons Tryz.func192 rfl (by kernel_rfl) (FnOk.cons Tryz.func193 rfl (by kernel_rfl) (FnOk.cons Tryz.func194 rfl (by kernel_rfl) (FnOk.cons Tryz.func195 rfl (by kernel_rfl) (FnOk.cons Tryz.func196 rfl (by kernel_rfl) (FnOk.cons Tryz.func197 rfl (by kernel_rfl) (FnOk.cons Tryz.func198 rfl (by kernel_rfl) (FnOk.cons Tryz.func199 rfl (by kernel_rfl) (FnOk.cons Tryz.func200 rfl (by kernel_rfl) (FnOk.cons Tryz.func201 rfl (by kernel_rfl) (Tryz.okF10)))))))))))))))))))))

theorem Tryz.okF8 : ∀ f ∈ ([162, 163, 164, 165, 166, 167, 168, 169, 170, 171, 172, 173, 174, 175, 176, 177, 178, 179, 180, 181, 182, 183, 184, 185, 186, 187, 188, 189, 190, 191, 192, 193, 194, 195, 196, 197, 198, 199, 200, 201, 202, 203, 204, 205, 206, 207, 208, 209, 210, 211] : List Nat), ∃ fn, Tryz.prog.funcs[f]? = some fn ∧ fn.body.isNone = false ∧ (fn.name == "runtime.NumGoroutine") = false :=
 (FnOk.cons Tryz.func162 rfl (by kernel_rfl) (FnOk.cons Tryz.func163 rfl (by kernel_rfl) (FnOk.cons Tryz.func164 rfl (by kernel_rfl) (FnOk.cons Tryz.func165 rfl (by kernel_rfl) (FnOk.cons Tryz.func166 rfl (by kernel_rfl) (FnOk.cons Tryz.func167 rfl (by kernel_rfl) (FnOk.cons Tryz.func168 rfl (by kernel_rfl) (FnOk.cons Tryz.func169 rfl (by kernel_rfl) (FnOk.cons Tryz.func170 rfl (by kernel_rfl) (FnOk.cons Tryz.func171 rfl (by kernel_rfl) (FnOk.cons Tryz.func172 rfl (by kernel_rfl) (FnOk.cons Tryz.func173 rfl (by kernel_rfl) (FnOk.cons Tryz.func174 rfl (by kernel_rfl) (FnOk.cons Tryz.func175 rfl (by kernel_rfl) (FnOk.cons Tryz.func176 rfl (by kernel_rfl) (FnOk.cons Tryz.func177 rfl (by kernel_rfl) (FnOk.cons Tryz.func178 rfl (by kernel_rfl) (FnOk.cons Tryz.func179 rfl (by kernel_rfl) (FnOk.cons Tryz.func180 rfl (by kernel_rfl) (FnOk.cons Tryz.func181 rfl (by kernel_rfl) (Tryz.okF9)))))))))))))))))))))

theorem Tryz.okF7 : ∀ f ∈ ([142, 143, 144, 145, 146, 147, 148, 149, 150, 151, 152, 153, 154, 155, 156, 157, 158, 159, 160, 161, 162, 163, 164, 165, 166, 167, 168, 169, 170, 171, 172, 173, 174, 175, 176, 177, 178, 179, 180, 181, 182, 183, 184, 185, 186, 187, 188, 189, 190, 191, 192, 193, 194, 195, 196, 197, 198, 199, 200, 201, 202, 203, 204, 205, 206, 207, 208, 209, 210, 211] : List Nat), ∃ fn, Tryz.prog.funcs[f]? = some fn ∧ fn.body.isNone = false ∧ (fn.name == "runtime.NumGoroutine") = false :=
 (FnOk.cons Tryz.func142 rfl (by kernel_rfl) (FnOk.cons Tryz.func143 rfl (by kernel_rfl) (FnOk.cons Tryz.func144 rfl (by kernel_rfl) (FnOk.cons Tryz.func145 rfl (by kernel_rfl) (FnOk.cons Tryz.func146 rfl (by kernel_rfl) (FnOk.cons Tryz.func147 rfl (by kernel_rfl) (FnOk.cons Tryz.func148 rfl (by kernel_rfl) (FnOk.cons Tryz.func149 rfl (by kernel_rfl) (FnOk.cons Tryz.func150 rfl (by kernel_rfl) (FnOk.cons Tryz.func151 rfl (by kernel_rfl) (FnOk.cons Tryz.func152 rfl (by kernel_rfl) (FnOk.cons Tryz.func153 rfl (by kernel_rfl) (FnOk.cons Tryz.func154 rfl (by kernel_rfl) (FnOk.cons Tryz.func155 rfl (by kernel_rfl) (FnOk.cons Tryz.func156 rfl (by kernel_rfl) (FnOk.cons Tryz.func157 rfl (by kernel_rfl) (FnOk.cons Tryz.func158 rfl (by kernel_rfl) (FnOk.cons Tryz.func159 rfl (by kernel_rfl) (FnOk.cons Tryz.func160 rfl (by kernel_rfl) (FnOk.cons Tryz.func161 rfl (by kernel_rfl) (Tryz.okF8)))))))))))))))))))))

theorem Tryz.okF6 : ∀ f ∈ ([122, 123, 124, 125, 126, 127, 128, 129, 130, 131, 132, 133, 134, 135, 136, 137, 138, 139, 140, 141, 142, 143, 144, 145, 146, 147, 148, 149, 150, 151, 152, 153, 154, 155, 156, 157, 158, 159, 160, 161, 162, 163, 164, 165, 166, 167, 168, 169, 170, 171, 172, 173, 174, 175, 176, 177, 178, 179, 180, 181, 182, 183, 184, 185, 186, 187, 188, 189, 190, 191, 192, 193, 194, 195, 196, 197, 198, 199, 200, 201, 202, 203, 204, 205, 206, 207, 208, 209, 210, 211] : List Nat), ∃ fn, Tryz.prog.funcs[f]? = some fn ∧ fn.body.isNone = false ∧ (fn.name == "runtime.NumGoroutine") = false :=
 (FnOk.cons Tryz.func122 rfl (by kernel_rfl) (FnOk.cons Tryz.func123 rfl (by kernel_rfl) (FnOk.cons Tryz.func124 rfl (by kernel_rfl) (FnOk.cons Tryz.func125 rfl (by kernel_rfl) (FnOk.cons Tryz.func126 rfl (by kernel_rfl) (FnOk.cons Tryz.func127 rfl (by kernel_rfl) (FnOk.cons Tryz.func128 rfl (by kernel_rfl) (FnOk.cons Tryz.func129 rfl (by kernel_rfl) (FnOk.cons Tryz.func130 rfl (by kernel_rfl) (FnOk.cons Tryz.func131 rfl (by kernel_rfl) (FnOk.cons Tryz.func132 rfl (by kernel_rfl) (FnOk.cons Tryz.func133 rfl (by kernel_rfl) (FnOk.cons Tryz.func134 rfl (by kernel_rfl) (FnOk.cons Tryz.func135 rfl (by kernel_rfl) (FnOk.cons Tryz.func136 rfl (by kernel_rfl) (FnOk.cons Tryz.func137 rfl (by kernel_rfl) (FnOk.cons Tryz.func138 rfl (by kernel_rfl) (FnOk.cons Tryz.func139 rfl (by kernel_rfl) (FnOk.cons Tryz.func140 rfl (by kernel_rfl) (FnOk.cons Tryz.func141 rfl (by kernel_rfl) (Tryz.okF7)))))))))))))))))))))

theorem Tryz.okF5 : ∀ f ∈ ([102, 103, 104, 105, 106, 107, 108, 109, 110, 111, 112, 113, 114, 115, 116, 117, 118, 119, 120, 121, 122, 123, 124, 125, 126, 127, 128, 129, 130, 131, 132, 133, 134, 135, 136, 137, 138, 139, 140, 141, 142, 143, 144, 145, 146, 147, 148, 149, 150, 151, 152, 153, 154, 155, 156, 157, 158, 159, 160, 161, 162, 163, 164, 165, 166, 167, 168, 169, 170, 171, 172, 173, 174, 175, 176, 177, 178, 179, 180, 181, 182, 183, 184, 185, 186, 187, 188, 189, 190, 191, 192, 193, 194, 195, 196, 197, 198, 199, 200, 201, 202, 203, 204, 205, 206, 207, 208, 209, 210, 211] : List Nat), ∃ fn, Tryz.prog.funcs[f]? = some fn ∧ fn.body.isNone = false ∧ (fn.name == "runtime.NumGoroutine") = false :=
 (FnOk.cons Tryz.func102 rfl (by kernel_rfl) (FnOk.cons Tryz.func103 rfl (by kernel_rfl) (FnOk.cons Tryz.func104 rfl (by kernel_rfl) (FnOk.cons Tryz.func105 rfl (by kernel_rfl) (FnOk.cons Tryz.func106 rfl (by kernel_rfl) (FnOk.cons Tryz.func107 rfl (by kernel_rfl) (FnOk.cons Tryz.func108 rfl (by kernel_rfl) (FnOk.cons Tryz.func109 rfl (by kernel_rfl) (FnOk.cons Tryz.func110 rfl (by kernel_rfl) (FnOk.cons Tryz.func111 rfl (by kernel_rfl) (FnOk.cons Tryz.func112 rfl (by kernel_rfl) (FnOk.cons Tryz.func113 rfl (by kernel_rfl) (FnOk.cons Tryz.func114 rfl (by kernel_rfl) (FnOk.cons Tryz.func115 rfl (by kernel_rfl) (FnOk.cons Tryz.func116 rfl (by kernel_rfl) (FnOk.cons Tryz.func117 rfl (by kernel_rfl) (FnOk.cons Tryz.func118 rfl (by kernel_rfl) (FnOk.cons Tryz.func119 rfl (by kernel_rfl) (FnOk.cons Tryz.func120 rfl (by kernel_rfl) (FnOk.cons Tryz.func121 rfl (by kernel_rfl) (Tryz.okF6)))))))))))))))))))))

theorem Tryz.okF4 : ∀ f ∈ ([82, 83, 84, 85, 86, 87, 88, 89, 90, 91, 92, 93, 94, 95, 96, 97, 98, 99, 100, 101, 102, 103, 104, 105, 106, 107, 108, 109, 110, 111, 112, 113, 114, 115, 116, 117, 118, 119, 120, 121, 122, 123, 124, 125, 126, 127, 128, 129, 130, 131, 132, 133, 134, 135, 136, 137, 138, 139, 140, 141, 142, 143, 144, 145, 146, 147, 148, 149, 150, 151, 152, 153, 154, 155, 156, 157, 158, 159, 160, 161, 162, 163, 164, 165, 166, 167, 168, 169, 170, 171, 172, 173, 174, 175, 176, 177, 178, 179, 180, 181, 182, 183, 184, 185, 186, 187, 188, 189, 190, 191, 192, 193, 194, 195, 196, 197, 198, 199, 200, 201, 202, 203, 204, 205, 206, 207, 208, 209, 210, 211] : List Nat), ∃ fn, Tryz.prog.funcs[f]? = some fn ∧ fn.body.isNone = false ∧ (fn.name == "runtime.NumGoroutine") = false :=
 (FnOk.cons Tryz.func82 rfl (by kernel_rfl) (FnOk.cons Tryz.func83 rfl (by kernel_rfl) (FnOk.cons Tryz.func84 rfl (by kernel_rfl) (FnOk.cons Tryz.func85 rfl (by kernel_rfl) (FnOk.cons Tryz.func86 rfl (by kernel_rfl) (FnOk.cons Tryz.func87 rfl (by kernel_rfl) (FnOk.cons Tryz.func88 rfl (by kernel_rfl) (FnOk.cons Tryz.func89 rfl (by kernel_rfl) (FnOk.cons Tryz.func90 rfl (by kernel_rfl) (FnOk.cons Tryz.func91 rfl (by kernel_rfl) (FnOk.cons Tryz.func92 rfl (by kernel_rfl) (FnOk.cons Tryz.func93 rfl (by kernel_rfl) (FnOk.cons Tryz.func94 rfl (by kernel_rfl) (FnOk.cons Tryz.func95 rfl (by kernel_rfl) (FnOk.cons Tryz.func96 rfl (by kernel_rfl) (FnOk.cons Tryz.func97 rfl (by kernel_rfl) (FnOk.cons Tryz.func98 rfl (by kernel_rfl) (FnOk.cons Tryz.func99 rfl (by kernel_rfl) (FnOk.cons Tryz.func100 rfl (by kernel_rfl) (FnOk.cons Tryz.func101 rfl (by kernel_rfl) (Tryz.okF5)))))))))))))))))))))

theorem Tryz.okF3 : ∀ f ∈ ([62, 63, 64, 65, 66, 67, 68, 69, 70, 71, 72, 73, 74, 75, 76, 77, 78, 79, 80, 81, 82, 83, 84, 85, 86, 87, 88, 89, 90, 91, 92, 93, 94, 95, 96, 97, 98, 99, 100, 101, 102, 103, 104, 105, 106, 107, 108, 109, 110, 111, 112, 113, 114, 115, 116, 117, 118, 119, 120, 121, 122, 123, 124, 125, 126, 127, 128, 129, 130, 131, 132, 133, 134, 135, 136, 137, 138, 139, 140, 141, 142, 143, 144, 145, 146, 147, 148, 149, 150, 151, 152, 153, 154, 155, 156, 157, 158, 159, 160, 161, 162, 163, 164, 165, 166, 167, 168, 169, 170, 171, 172, 173, 174, 175, 176, 177, 178, 179, 180, 181, 182, 183, 184, 185, 186, 187, 188, 189, 190, 191, 192, 193, 194, 195, 196, 197, 198, 199, 200, 201, 202, 203, 204, 205, 206, 207, 208, 209, 210, 211] : List Nat), ∃ fn, Tryz.prog.funcs[f]? = some fn ∧ fn.body.isNone = false ∧ (fn.name == "runtime.NumGoroutine") = false :=
 (FnOk.cons Tryz.func62 rfl (by kernel_rfl) (FnOk.cons Tryz.func63 rfl (by kernel_rfl) (FnOk.cons Tryz.func64 rfl (by kernel_rfl) (FnOk.cons Tryz.func65 rfl (by kernel_rfl) (FnOk.cons Tryz.func66 rfl (by kernel_rfl) (FnOk.cons Tryz.func67 rfl (by kernel_rfl) (FnOk.cons Tryz.func68 rfl (by kernel_rfl) (FnOk.cons Tryz.func69 rfl (by kernel_rfl) (FnOk.cons Tryz.func70 rfl (by kernel_rfl) (FnOk.cons Tryz.func71 rfl (by kernel_rfl) (FnOk.cons Tryz.func72 rfl (by kernel_rfl) (FnOk.cons Tryz.func73 rfl (by kernel_rfl) (FnOk.cons Tryz.func74 rfl (by kernel_rfl) (FnOk.cons Tryz.func75 rfl (by kernel_rfl) (FnOk.cons Tryz.func76 rfl (by kernel_rfl) (FnOk.cons Tryz.func77 rfl (by kernel_rfl) (FnOk.cons Tryz.func78 rfl (by kernel_rfl) (FnOk.cons Tryz.func79 rfl (by kernel_rfl) (FnOk.cons Tryz.func80 rfl (by kernel_rfl) (FnOk.cons Tryz.func81 rfl (by kernel_rfl) (Tryz.okF4)))))))))))))))))))))

theorem Tryz.okF2 : ∀ f ∈ ([42, 43, 44, 45, 46, 47, 48, 49, 50, 51, 52, 53, 54, 55, 56, 57, 58, 59, 60, 61, 62, 63, 64, 65, 66, 67, 68, 69, 70, 71, 72, 73, 74, 75, 76, 77, 78, 79, 80, 81, 82, 83, 84, 85, 86, 87, 88, 89, 90, 91, 92, 93, 94, 95, 96, 97, 98, 99, 100, 101, 102, 103, 104, 105, 106, 107, 108, 109, 110, 111, 112, 113, 114, 115, 116, 117, 118, 119, 120, 121, 122, 123, 124, 125, 126, 127, 128, 129, 130, 131, 132, 133, 134, 135, 136, 137, 138, 139, 140, 141, 142, 143, 144, 145, 146, 147, 148, 149, 150, 151, 152, 153, 154, 155, 156, 157, 158, 159, 160, 161, 162, 163, 164, 165, 166, 167, 168, 169, 170, 171, 172, 173, 174, 175, 176, 177, 178, 179, 180, 181, 182, 183, 184, 185, 186, 187, 188, 189, 190, 191, 192, 193, 194, 195, 196, 197, 198, 199, 200, 201, 202, 203, 204, 205, 206, 207, 208, 209, 210, 211] : List Nat), ∃ fn, Tryz.prog.funcs[f]? = some fn ∧ fn.body.isNone = false ∧ (fn.name == "runtime.NumGoroutine") = false :=
 (FnOk.cons Tryz.func42 rfl (by kernel_rfl) (FnOk.cons Tryz.func43 rfl (by kernel_rfl) (FnOk.cons Tryz.func44 rfl (by kernel_rfl) (FnOk.cons Tryz.func45 rfl (by kernel_rfl) (FnOk.cons Tryz.func46 rfl (by kernel_rfl) (FnOk.cons Tryz.func47 rfl (by kernel_rfl) (FnOk.cons Tryz.func48 rfl (by kernel_rfl) (FnOk.cons Tryz.func49 rfl (by kernel_rfl) (FnOk.cons Tryz.func50 rfl (by kernel_rfl) (FnOk.cons Tryz.func51 rfl (by kernel_rfl) (FnOk.cons Tryz.func52 rfl (by kernel_rfl) (FnOk.cons Tryz.func53 rfl (by kernel_rfl) (FnOk.cons Tryz.func54 rfl (by kernel_rfl) (FnOk.cons Tryz.func55 rfl (by kernel_rfl) (FnOk.cons Tryz.func56 rfl (by kernel_rfl) (FnOk.cons Tryz.func57 rfl (by kernel_rfl) (FnOk.cons Tryz.func58 rfl (by kernel_rfl) (FnOk.cons Tryz.func59 rfl (by kernel_rfl) (FnOk.cons Tryz.func60 rfl (by kernel_rfl) (FnOk.cons Tryz.func61 rfl (by kernel_rfl) (Tryz.okF3)))))))))))))))))))))

theorem Tryz.okF1 : ∀ f ∈ ([22, 23, 24, 25, 26, 27, 28, 29, 30, 31, 32, 33, 34, 35, 36, 37, 38, 39, 40, 41, 42, 43, 44, 45, 46, 47, 48, 49, 50, 51, 52, 53, 54, 55, 56, 57, 58, 59, 60, 61, 62, 63, 64, 65, 66, 67, 68, 69, 70, 71, 72, 73, 74, 75, 76, 77, 78, 79, 80, 81, 82, 83, 84, 85, 86, 87, 88, 89, 90, 91, 92, 93, 94, 95, 96, 97, 98, 99, 100, 101, 102, 103, 104, 105, 106, 107, 108, 109, 110, 111, 112, 113, 114, 115, 116, 117, 118, 119, 120, 121, 122, 123, 124, 125, 126, 127, 128, 129, 130, 131, 132, 133, 134, 135, 136, 137, 138, 139, 140, 141, 142, 143, 144, 145, 146, 147, 148, 149, 150, 151, 152, 153, 154, 155, 156, 157, 158, 159, 160, 161, 162, 163, 164, 165, 166, 167, 168, 169, 170, 171, 172, 173, 174, 175, 176, 177, 178, 179, 180, 181, 182, 183, 184, 185, 186, 187, 188, 189, 190, 191, 192, 193, 194, 195, 196, 197, 198, 199, 200, 201, 202, 203, 204, 205, 206, 207, 208, 209, 210, 211] : List Nat), ∃ fn, Tryz.prog.funcs[f]? = some fn ∧ fn.body.isNone = false ∧ (fn.name == "runtime.NumGoroutine") = false :=
 (FnOk.cons Tryz.func22 rfl (by kernel_rfl) (FnOk.cons Tryz.func23 rfl (by kernel_rfl) (FnOk.cons Tryz.func24 rfl (by kernel_rfl) (FnOk.cons Tryz.func25 rfl (by kernel_rfl) (FnOk.cons Tryz.func26 rfl (by kernel_rfl) (FnOk.cons Tryz.func27 rfl (by kernel_rfl) (FnOk.cons Tryz.func28 rfl (by kernel_rfl) (FnOk.cons Tryz.func29 rfl (by kernel_rfl) (FnOk.cons Tryz.func30 rfl (by kernel_rfl) (FnOk.cons Tryz.func31 rfl (by kernel_rfl) (FnOk.cons Tryz.func32 rfl (by kernel_rfl) (FnOk.cons Tryz.func33 rfl (by kernel_rfl) (FnOk.cons Tryz.func34 rfl (by kernel_rfl) (FnOk.cons Tryz.func35 rfl (by kernel_rfl) (FnOk.cons Tryz.func36 rfl (by kernel_rfl) (FnOk.cons Tryz.func37 rfl (by kernel_rfl) (FnOk.cons Tryz.func38 rfl (by kernel_rfl) (FnOk.cons Tryz.func39 rfl (by kernel_rfl) (FnOk.cons Tryz.func40 rfl (by kernel_rfl) (FnOk.cons Tryz.func41 rfl (by kernel_rfl) (Tryz.okF2)))))))))))))))))))))

theorem Tryz.okF0 : ∀ f ∈ ([2, 3, 4, 5, 6, 7, 8, 9, 10, 11, 12, 13, 14, 15, 16, 17, 18, 19, 20, 21, 22, 23, 24, 25, 26, 27, 28, 29, 30, 31, 32, 33, 34, 35, 36, 37, 38, 39, 40, 41, 42, 43, 44, 45, 46, 47, 48, 49, 50, 51, 52, 53, 54, 55, 56, 57, 58, 59, 60, 61, 62, 63, 64, 65, 66, 67, 68, 69, 70, 71, 72, 73, 74, 75, 76, 77, 78, 79, 80, 81, 82, 83, 84, 85, 86, 87, 88, 89, 90, 91, 92, 93, 94, 95, 96, 97, 98, 99, 100, 101, 102, 103, 104, 105, 106, 107, 108, 109, 110, 111, 112, 113, 114, 115, 116, 117, 118, 119, 120, 121, 122, 123, 124, 125, 126, 127, 128, 129, 130, 131, 132, 133, 134, 135, 136, 137, 138, 139, 140, 141, 142, 143, 144, 145, 146, 147, 148, 149, 150, 151, 152, 153, 154, 155, 156, 157, 158, 159, 160, 161, 162, 163, 164, 165, 166, 167, 168, 169, 170, 171, 172, 173, 174, 175, 176, 177, 178, 179, 180, 181, 182, 183, 184, 185, 186, 187, 188, 189, 190, 191, 192, 193, 194, 195, 196, 197, 198, 199, 200, 201, 202, 203, 204, 205, 206, 207, 208, 209, 210, 211] : List Nat), ∃ fn, Tryz.prog.funcs[f]? = some fn ∧ fn.body.isNone = false ∧ (fn.name == "runtime.NumGoroutine") = false :=
 (FnOk.cons Tryz.func2 rfl (by kernel_rfl) (FnOk.cons Tryz.func3 rfl (by kernel_rfl) (FnOk.cons Tryz.func4 rfl (by kernel_rfl) (FnOk.cons Tryz.func5 rfl (by kernel_rfl) (FnOk.cons Tryz.func6 rfl (by kernel_rfl) (FnOk.cons Tryz.func7 rfl (by kernel_rfl) (FnOk.cons Tryz.func8 rfl (by kernel_rfl) (FnOk.cons Tryz.func9 rfl (by kernel_rfl) (FnOk.cons Tryz.func10 rfl (by kernel_rfl) (FnOk.cons Tryz.func11 rfl (by kernel_rfl) (FnOk.cons Tryz.func12 rfl (by kernel_rfl) (FnOk.cons Tryz.func13 rfl (by kernel_rfl) (FnOk.cons Tryz.func14 rfl (by kernel_rfl) (FnOk.cons Tryz.func15 rfl (by kernel_rfl) (FnOk.cons Tryz.func16 rfl (by kernel_rfl) (FnOk.cons Tryz.func17 rfl (by kernel_rfl) (FnOk.cons Tryz.func18 rfl (by kernel_rfl) (FnOk.cons Tryz.func19 rfl (by kernel_rfl) (FnOk.cons Tryz.func20 rfl (by kernel_rfl) (FnOk.cons Tryz.func21 rfl (by kernel_rfl) (Tryz.okF1)))))))))))))))))))))

def Tryz.eqs : List Nat := [23, 31, 70, 74, 82, 98, 102, 112, 165, 178, 196, 202, 214, 244, 261]

theorem Tryz.okE : ∀ t ∈ Tryz.eqs, eqTy Tryz.prog t = true := by
 intro t ht
 simp only [Tryz.eqs, List.mem_cons, List.not_mem_nil, or_false] at ht
 rcases ht with rfl | rfl | rfl | rfl | rfl | rfl | rfl | rfl | rfl | rfl | rfl | rfl | rfl | rfl | rfl <;> kernel_rfl

noncomputable def Tryz.cx : Cx := { P := Tryz.prog, L := Tryz.lay, fns := Tryz.fns, eqs := Tryz.eqs, okL := Tryz.okLay, okF := Tryz.okF0, okE := Tryz.okE, mixed := by kernel_rfl }

end Go.Proofs
