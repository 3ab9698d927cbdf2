import Derived.Test.YtephkjicokbckaaGreatDoorProg
import Derived.Test.YtephkjicokbckaaGreatDoorVerifyKnownVb
import Derived.KernelRfl
namespace Go.Proofs

open Go Go.Vx

def Tryz.lay0 : Lay := [(1, ⟨.other, 1, 8, .nilFunc⟩),
  (3, ⟨.int .i64, 1, 8, .int .i64 (0)⟩),
  (4, ⟨.bool, 1, 1, .bool false⟩),
  (2, ⟨.int .i64, 1, 8, .int .i64 (0)⟩),
  (8, ⟨.struct [(0, 2), (1, 3), (2, 4), (3, 6)], 4, 24, .agg #[.int .i64 (0), .int .i64 (0), .bool false, .int .u8 (0)]⟩),
  (27, ⟨.slice 64, 1, 24, .slice none 0 0⟩),
  (5, ⟨.int .u8, 1, 1, .int .u8 (0)⟩),
  (34, ⟨.int .i64, 1, 8, .int .i64 (0)⟩),
  (26, ⟨.slice 3, 1, 24, .slice none 0 0⟩),
  (6, ⟨.int .u8, 1, 1, .int .u8 (0)⟩),
  (64, ⟨.struct [(0, 3), (1, 3)], 2, 16, .agg #[.int .i64 (0), .int .i64 (0)]⟩),
  (7, ⟨.struct [(0, 2), (1, 3), (2, 4), (3, 6)], 4, 24, .agg #[.int .i64 (0), .int .i64 (0), .bool false, .int .u8 (0)]⟩)]

theorem Tryz.okLay0 : LayOk Tryz.prog Tryz.lay0 := ⟨⟨by kernel_rfl, by kernel_rfl⟩, ⟨by kernel_rfl, by kernel_rfl⟩, ⟨by kernel_rfl, by kernel_rfl⟩, ⟨by kernel_rfl, by kernel_rfl⟩, ⟨by kernel_rfl, by kernel_rfl⟩, ⟨by kernel_rfl, by kernel_rfl⟩, ⟨by kernel_rfl, by kernel_rfl⟩, ⟨by kernel_rfl, by kernel_rfl⟩, ⟨by kernel_rfl, by kernel_rfl⟩, ⟨by kernel_rfl, by kernel_rfl⟩, ⟨by kernel_rfl, by kernel_rfl⟩, ⟨by kernel_rfl, by kernel_rfl⟩, trivial⟩

def Tryz.lay1 : Lay := [(25, ⟨.struct [(0, 22), (1, 3), (2, 23)], 3, 56, .agg #[.slice none 0 0, .int .i64 (0), .slice none 0 0]⟩),
  (136, ⟨.struct [(0, 3), (1, 3), (2, 3), (3, 3), (4, 3), (5, 3), (6, 3), (7, 3)], 8, 64, .agg #[.int .i64 (0), .int .i64 (0), .int .i64 (0), .int .i64 (0), .int .i64 (0), .int .i64 (0), .int .i64 (0), .int .i64 (0)]⟩),
  (50, ⟨.struct [(0, 3), (1, 26), (2, 3), (3, 3), (4, 3), (5, 3)], 6, 64, .agg #[.int .i64 (0), .slice none 0 0, .int .i64 (0), .int .i64 (0), .int .i64 (0), .int .i64 (0)]⟩),
  (44, ⟨.slice 26, 1, 24, .slice none 0 0⟩),
  (67, ⟨.int .u64, 1, 8, .int .u64 (0)⟩),
  (12, ⟨.int .u64, 1, 8, .int .u64 (0)⟩),
  (80, ⟨.struct [(0, 25), (3, 27), (4, 3), (5, 3), (6, 3), (7, 50)], 13, 168, .agg #[.slice none 0 0, .int .i64 (0), .slice none 0 0, .slice none 0 0, .int .i64 (0), .int .i64 (0), .int .i64 (0), .int .i64 (0), .slice none 0 0, .int .i64 (0), .int .i64 (0), .int .i64 (0), .int .i64 (0)]⟩),
  (260, ⟨.int .u32, 1, 4, .int .u32 (0)⟩),
  (54, ⟨.struct [(0, 3), (1, 26), (2, 3), (3, 3), (4, 3), (5, 3)], 6, 64, .agg #[.int .i64 (0), .slice none 0 0, .int .i64 (0), .int .i64 (0), .int .i64 (0), .int .i64 (0)]⟩),
  (144, ⟨.struct [(0, 3), (1, 3), (2, 3), (3, 3)], 4, 32, .agg #[.int .i64 (0), .int .i64 (0), .int .i64 (0), .int .i64 (0)]⟩),
  (29, ⟨.struct [(0, 26), (1, 27), (2, 3)], 3, 56, .agg #[.slice none 0 0, .slice none 0 0, .int .i64 (0)]⟩),
  (58, ⟨.slice 5, 1, 24, .slice none 0 0⟩)]

theorem Tryz.okLay1 : LayOk Tryz.prog Tryz.lay1 := ⟨⟨by kernel_rfl, by kernel_rfl⟩, ⟨by kernel_rfl, by kernel_rfl⟩, ⟨by kernel_rfl, by kernel_rfl⟩, ⟨by kernel_rfl, by kernel_rfl⟩, ⟨by kernel_rfl, by kernel_rfl⟩, ⟨by kernel_rfl, by kernel_rfl⟩, ⟨by kernel_rfl, by kernel_rfl⟩, ⟨by kernel_rfl, by kernel_rfl⟩, ⟨by kernel_rfl, by kernel_rfl⟩, ⟨by kernel_rfl, by kernel_rfl⟩, ⟨by kernel_rfl, by kernel_rfl⟩, ⟨by kernel_rfl, by kernel_rfl⟩, trivial⟩

def Tryz.lay2 : Lay := [(22, ⟨.slice 136, 1, 24, .slice none 0 0⟩),
  (16, ⟨.pointer, 1, 8, .pointer none⟩),
  (96, ⟨.pointer, 1, 8, .pointer none⟩),
  (121, ⟨.struct [(0, 118), (1, 3), (2, 100), (3, 27)], 4, 64, .agg #[.pointer none, .int .i64 (0), .slice none 0 0, .slice none 0 0]⟩),
  (138, ⟨.struct [(0, 3), (1, 3)], 2, 16, .agg #[.int .i64 (0), .int .i64 (0)]⟩),
  (17, ⟨.pointer, 1, 8, .pointer none⟩),
  (30, ⟨.slice 87, 1, 24, .slice none 0 0⟩),
  (231, ⟨.other, 1, 8, .nilFunc⟩),
  (194, ⟨.struct [(0, 3), (1, 3)], 2, 16, .agg #[.int .i64 (0), .int .i64 (0)]⟩),
  (15, ⟨.pointer, 1, 8, .pointer none⟩),
  (24, ⟨.struct [(0, 22), (1, 3), (2, 23)], 3, 56, .agg #[.slice none 0 0, .int .i64 (0), .slice none 0 0]⟩),
  (118, ⟨.pointer, 1, 8, .pointer none⟩)]

theorem Tryz.okLay2 : LayOk Tryz.prog Tryz.lay2 := ⟨⟨by kernel_rfl, by kernel_rfl⟩, ⟨by kernel_rfl, by kernel_rfl⟩, ⟨by kernel_rfl, by kernel_rfl⟩, ⟨by kernel_rfl, by kernel_rfl⟩, ⟨by kernel_rfl, by kernel_rfl⟩, ⟨by kernel_rfl, by kernel_rfl⟩, ⟨by kernel_rfl, by kernel_rfl⟩, ⟨by kernel_rfl, by kernel_rfl⟩, ⟨by kernel_rfl, by kernel_rfl⟩, ⟨by kernel_rfl, by kernel_rfl⟩, ⟨by kernel_rfl, by kernel_rfl⟩, ⟨by kernel_rfl, by kernel_rfl⟩, trivial⟩

def Tryz.lay3 : Lay := [(242, ⟨.int .u64, 1, 8, .int .u64 (0)⟩),
  (150, ⟨.struct [(0, 4), (1, 3), (2, 3)], 3, 24, .agg #[.bool false, .int .i64 (0), .int .i64 (0)]⟩),
  (33, ⟨.other, 1, 8, .nilFunc⟩),
  (38, ⟨.struct [(0, 26), (1, 27), (2, 3)], 3, 56, .agg #[.slice none 0 0, .slice none 0 0, .int .i64 (0)]⟩),
  (93, ⟨.other, 1, 8, .nilFunc⟩),
  (19, ⟨.struct [(0, 17)], 1, 8, .agg #[.pointer none]⟩),
  (23, ⟨.slice 144, 1, 24, .slice none 0 0⟩),
  (99, ⟨.pointer, 1, 8, .pointer none⟩),
  (162, ⟨.other, 1, 8, .nilFunc⟩),
  (100, ⟨.slice 4, 1, 24, .slice none 0 0⟩),
  (148, ⟨.slice 150, 1, 24, .slice none 0 0⟩),
  (20, ⟨.other, 1, 16, .nilIface⟩)]

theorem Tryz.okLay3 : LayOk Tryz.prog Tryz.lay3 := ⟨⟨by kernel_rfl, by kernel_rfl⟩, ⟨by kernel_rfl, by kernel_rfl⟩, ⟨by kernel_rfl, by kernel_rfl⟩, ⟨by kernel_rfl, by kernel_rfl⟩, ⟨by kernel_rfl, by kernel_rfl⟩, ⟨by kernel_rfl, by kernel_rfl⟩, ⟨by kernel_rfl, by kernel_rfl⟩, ⟨by kernel_rfl, by kernel_rfl⟩, ⟨by kernel_rfl, by kernel_rfl⟩, ⟨by kernel_rfl, by kernel_rfl⟩, ⟨by kernel_rfl, by kernel_rfl⟩, ⟨by kernel_rfl, by kernel_rfl⟩, trivial⟩

def Tryz.lay4 : Lay := [(87, ⟨.struct [(0, 26), (1, 26)], 2, 48, .agg #[.slice none 0 0, .slice none 0 0]⟩),
  (187, ⟨.slice 194, 1, 24, .slice none 0 0⟩),
  (39, ⟨.slice 125, 1, 24, .slice none 0 0⟩),
  (184, ⟨.other, 1, 8, .nilFunc⟩),
  (21, ⟨.int .i32, 1, 4, .int .i32 (0)⟩),
  (206, ⟨.struct [(0, 25), (3, 3), (4, 187), (5, 44)], 6, 112, .agg #[.slice none 0 0, .int .i64 (0), .slice none 0 0, .int .i64 (0), .slice none 0 0, .slice none 0 0]⟩),
  (18, ⟨.struct [(0, 17)], 1, 8, .agg #[.pointer none]⟩),
  (274, ⟨.pointer, 1, 8, .pointer none⟩),
  (141, ⟨.struct [(0, 136), (8, 139)], 9, 72, .agg #[.int .i64 (0), .int .i64 (0), .int .i64 (0), .int .i64 (0), .int .i64 (0), .int .i64 (0), .int .i64 (0), .int .i64 (0), .map none]⟩),
  (56, ⟨.other, 1, 8, .nilFunc⟩),
  (65, ⟨.other, 1, 8, .nilFunc⟩),
  (158, ⟨.struct [(0, 155), (1, 156)], 2, 16, .agg #[.nilFunc, .nilFunc]⟩)]

theorem Tryz.okLay4 : LayOk Tryz.prog Tryz.lay4 := ⟨⟨by kernel_rfl, by kernel_rfl⟩, ⟨by kernel_rfl, by kernel_rfl⟩, ⟨by kernel_rfl, by kernel_rfl⟩, ⟨by kernel_rfl, by kernel_rfl⟩, ⟨by kernel_rfl, by kernel_rfl⟩, ⟨by kernel_rfl, by kernel_rfl⟩, ⟨by kernel_rfl, by kernel_rfl⟩, ⟨by kernel_rfl, by kernel_rfl⟩, ⟨by kernel_rfl, by kernel_rfl⟩, ⟨by kernel_rfl, by kernel_rfl⟩, ⟨by kernel_rfl, by kernel_rfl⟩, ⟨by kernel_rfl, by kernel_rfl⟩, trivial⟩

def Tryz.lay5 : Lay := [(244, ⟨.pointer, 1, 8, .pointer none⟩),
  (60, ⟨.other, 1, 8, .nilFunc⟩),
  (114, ⟨.other, 1, 8, .nilFunc⟩),
  (191, ⟨.struct [(0, 25), (3, 186), (4, 3), (5, 187), (6, 189)], 22, 480, .agg #[.slice none 0 0, .int .i64 (0), .slice none 0 0, .map none, .int .i64 (0), .slice none 0 0, .slice none 0 0, .slice none 0 0, .slice none 0 0, .slice none 0 0, .slice none 0 0, .slice none 0 0, .slice none 0 0, .slice none 0 0, .slice none 0 0, .slice none 0 0, .slice none 0 0, .slice none 0 0, .slice none 0 0, .slice none 0 0, .slice none 0 0, .slice none 0 0]⟩),
  (252, ⟨.int .i64, 1, 8, .int .i64 (0)⟩),
  (32, ⟨.other, 1, 8, .nilFunc⟩),
  (181, ⟨.other, 1, 8, .nilFunc⟩),
  (92, ⟨.other, 1, 8, .nilFunc⟩),
  (125, ⟨.struct [(0, 26), (1, 26)], 2, 48, .agg #[.slice none 0 0, .slice none 0 0]⟩),
  (175, ⟨.other, 1, 8, .nilFunc⟩),
  (270, ⟨.int .u64, 1, 8, .int .u64 (0)⟩),
  (234, ⟨.struct [(0, 3), (1, 232)], 2, 16, .agg #[.int .i64 (0), .nilFunc]⟩)]

theorem Tryz.okLay5 : LayOk Tryz.prog Tryz.lay5 := ⟨⟨by kernel_rfl, by kernel_rfl⟩, ⟨by kernel_rfl, by kernel_rfl⟩, ⟨by kernel_rfl, by kernel_rfl⟩, ⟨by kernel_rfl, by kernel_rfl⟩, ⟨by kernel_rfl, by kernel_rfl⟩, ⟨by kernel_rfl, by kernel_rfl⟩, ⟨by kernel_rfl, by kernel_rfl⟩, ⟨by kernel_rfl, by kernel_rfl⟩, ⟨by kernel_rfl, by kernel_rfl⟩, ⟨by kernel_rfl, by kernel_rfl⟩, ⟨by kernel_rfl, by kernel_rfl⟩, ⟨by kernel_rfl, by kernel_rfl⟩, trivial⟩

def Tryz.lay6 : Lay := [(210, ⟨.pointer, 1, 8, .pointer none⟩),
  (31, ⟨.other, 1, 8, .nilFunc⟩),
  (43, ⟨.other, 1, 8, .nilFunc⟩),
  (122, ⟨.slice 121, 1, 24, .slice none 0 0⟩),
  (102, ⟨.struct [(0, 96), (1, 3), (2, 100), (3, 99), (4, 27)], 5, 72, .agg #[.pointer none, .int .i64 (0), .slice none 0 0, .pointer none, .slice none 0 0]⟩),
  (164, ⟨.other, 1, 8, .nilFunc⟩),
  (186, ⟨.map 3 23, 1, 8, .map none⟩),
  (248, ⟨.struct [(0, 136), (8, 194), (10, 232)], 11, 88, .agg #[.int .i64 (0), .int .i64 (0), .int .i64 (0), .int .i64 (0), .int .i64 (0), .int .i64 (0), .int .i64 (0), .int .i64 (0), .int .i64 (0), .int .i64 (0), .nilFunc]⟩),
  (88, ⟨.array 2 3, 2, 16, .agg #[.int .i64 (0), .int .i64 (0)]⟩),
  (198, ⟨.struct [(0, 3), (1, 187), (2, 44)], 3, 56, .agg #[.int .i64 (0), .slice none 0 0, .slice none 0 0]⟩),
  (36, ⟨.other, 1, 8, .nilFunc⟩),
  (48, ⟨.other, 1, 8, .nilFunc⟩)]

theorem Tryz.okLay6 : LayOk Tryz.prog Tryz.lay6 := ⟨⟨by kernel_rfl, by kernel_rfl⟩, ⟨by kernel_rfl, by kernel_rfl⟩, ⟨by kernel_rfl, by kernel_rfl⟩, ⟨by kernel_rfl, by kernel_rfl⟩, ⟨by kernel_rfl, by kernel_rfl⟩, ⟨by kernel_rfl, by kernel_rfl⟩, ⟨by kernel_rfl, by kernel_rfl⟩, ⟨by kernel_rfl, by kernel_rfl⟩, ⟨by kernel_rfl, by kernel_rfl⟩, ⟨by kernel_rfl, by kernel_rfl⟩, ⟨by kernel_rfl, by kernel_rfl⟩, ⟨by kernel_rfl, by kernel_rfl⟩, trivial⟩

def Tryz.lay7 : Lay := [(57, ⟨.other, 1, 8, .nilFunc⟩),
  (103, ⟨.slice 99, 1, 24, .slice none 0 0⟩),
  (195, ⟨.other, 1, 8, .nilFunc⟩),
  (28, ⟨.struct [(0, 26), (1, 27), (2, 3)], 3, 56, .agg #[.slice none 0 0, .slice none 0 0, .int .i64 (0)]⟩),
  (46, ⟨.other, 1, 8, .nilFunc⟩),
  (127, ⟨.other, 1, 8, .nilFunc⟩),
  (166, ⟨.other, 1, 8, .nilFunc⟩),
  (232, ⟨.other, 1, 8, .nilFunc⟩),
  (70, ⟨.other, 1, 8, .nilFunc⟩),
  (139, ⟨.map 3 138, 1, 8, .map none⟩),
  (145, ⟨.pointer, 1, 8, .pointer none⟩),
  (170, ⟨.pointer, 1, 8, .pointer none⟩)]

theorem Tryz.okLay7 : LayOk Tryz.prog Tryz.lay7 := ⟨⟨by kernel_rfl, by kernel_rfl⟩, ⟨by kernel_rfl, by kernel_rfl⟩, ⟨by kernel_rfl, by kernel_rfl⟩, ⟨by kernel_rfl, by kernel_rfl⟩, ⟨by kernel_rfl, by kernel_rfl⟩, ⟨by kernel_rfl, by kernel_rfl⟩, ⟨by kernel_rfl, by kernel_rfl⟩, ⟨by kernel_rfl, by kernel_rfl⟩, ⟨by kernel_rfl, by kernel_rfl⟩, ⟨by kernel_rfl, by kernel_rfl⟩, ⟨by kernel_rfl, by kernel_rfl⟩, ⟨by kernel_rfl, by kernel_rfl⟩, trivial⟩

def Tryz.lay8 : Lay := [(174, ⟨.other, 1, 8, .nilFunc⟩),
  (40, ⟨.other, 1, 8, .nilFunc⟩),
  (91, ⟨.other, 1, 8, .nilFunc⟩),
  (115, ⟨.other, 1, 8, .nilFunc⟩),
  (134, ⟨.slice 141, 1, 24, .slice none 0 0⟩),
  (204, ⟨.other, 1, 8, .nilFunc⟩),
  (41, ⟨.other, 1, 8, .nilFunc⟩),
  (106, ⟨.other, 1, 8, .nilFunc⟩),
  (147, ⟨.slice 148, 1, 24, .slice none 0 0⟩),
  (52, ⟨.other, 1, 8, .nilFunc⟩),
  (62, ⟨.other, 1, 8, .nilFunc⟩),
  (63, ⟨.struct [(0, 3), (1, 3)], 2, 16, .agg #[.int .i64 (0), .int .i64 (0)]⟩)]

theorem Tryz.okLay8 : LayOk Tryz.prog Tryz.lay8 := ⟨⟨by kernel_rfl, by kernel_rfl⟩, ⟨by kernel_rfl, by kernel_rfl⟩, ⟨by kernel_rfl, by kernel_rfl⟩, ⟨by kernel_rfl, by kernel_rfl⟩, ⟨by kernel_rfl, by kernel_rfl⟩, ⟨by kernel_rfl, by kernel_rfl⟩, ⟨by kernel_rfl, by kernel_rfl⟩, ⟨by kernel_rfl, by kernel_rfl⟩, ⟨by kernel_rfl, by kernel_rfl⟩, ⟨by kernel_rfl, by kernel_rfl⟩, ⟨by kernel_rfl, by kernel_rfl⟩, ⟨by kernel_rfl, by kernel_rfl⟩, trivial⟩

def Tryz.lay9 : Lay := [(73, ⟨.other, 1, 8, .nilFunc⟩),
  (108, ⟨.other, 1, 8, .nilFunc⟩),
  (132, ⟨.other, 1, 8, .nilFunc⟩),
  (142, ⟨.slice 138, 1, 24, .slice none 0 0⟩),
  (201, ⟨.other, 1, 8, .nilFunc⟩),
  (213, ⟨.other, 1, 8, .nilFunc⟩),
  (256, ⟨.other, 1, 8, .nilFunc⟩),
  (291, ⟨.array 32 5, 32, 32, .agg #[.int .u8 (0), .int .u8 (0), .int .u8 (0), .int .u8 (0), .int .u8 (0), .int .u8 (0), .int .u8 (0), .int .u8 (0), .int .u8 (0), .int .u8 (0), .int .u8 (0), .int .u8 (0), .int .u8 (0), .int .u8 (0), .int .u8 (0), .int .u8 (0), .int .u8 (0), .int .u8 (0), .int .u8 (0), .int .u8 (0), .int .u8 (0), .int .u8 (0), .int .u8 (0), .int .u8 (0), .int .u8 (0), .int .u8 (0), .int .u8 (0), .int .u8 (0), .int .u8 (0), .int .u8 (0), .int .u8 (0), .int .u8 (0)]⟩),
  (42, ⟨.other, 1, 8, .nilFunc⟩),
  (47, ⟨.other, 1, 8, .nilFunc⟩),
  (69, ⟨.other, 1, 8, .nilFunc⟩),
  (76, ⟨.other, 1, 8, .nilFunc⟩)]

theorem Tryz.okLay9 : LayOk Tryz.prog Tryz.lay9 := ⟨⟨by kernel_rfl, by kernel_rfl⟩, ⟨by kernel_rfl, by kernel_rfl⟩, ⟨by kernel_rfl, by kernel_rfl⟩, ⟨by kernel_rfl, by kernel_rfl⟩, ⟨by kernel_rfl, by kernel_rfl⟩, ⟨by kernel_rfl, by kernel_rfl⟩, ⟨by kernel_rfl, by kernel_rfl⟩, ⟨by kernel_rfl, by kernel_rfl⟩, ⟨by kernel_rfl, by kernel_rfl⟩, ⟨by kernel_rfl, by kernel_rfl⟩, ⟨by kernel_rfl, by kernel_rfl⟩, ⟨by kernel_rfl, by kernel_rfl⟩, trivial⟩

def Tryz.lay10 : Lay := [(90, ⟨.other, 1, 8, .nilFunc⟩),
  (113, ⟨.map 9 4, 1, 8, .map none⟩),
  (155, ⟨.other, 1, 8, .nilFunc⟩),
  (202, ⟨.other, 1, 8, .nilFunc⟩),
  (215, ⟨.other, 1, 8, .nilFunc⟩),
  (49, ⟨.struct [(0, 3), (1, 26), (2, 3), (3, 3), (4, 3), (5, 3)], 6, 64, .agg #[.int .i64 (0), .slice none 0 0, .int .i64 (0), .int .i64 (0), .int .i64 (0), .int .i64 (0)]⟩),
  (61, ⟨.other, 1, 8, .nilFunc⟩),
  (82, ⟨.other, 1, 8, .nilFunc⟩),
  (116, ⟨.other, 1, 8, .nilFunc⟩),
  (117, ⟨.other, 1, 8, .nilFunc⟩),
  (165, ⟨.other, 1, 8, .nilFunc⟩),
  (173, ⟨.other, 1, 8, .nilFunc⟩)]

theorem Tryz.okLay10 : LayOk Tryz.prog Tryz.lay10 := ⟨⟨by kernel_rfl, by kernel_rfl⟩, ⟨by kernel_rfl, by kernel_rfl⟩, ⟨by kernel_rfl, by kernel_rfl⟩, ⟨by kernel_rfl, by kernel_rfl⟩, ⟨by kernel_rfl, by kernel_rfl⟩, ⟨by kernel_rfl, by kernel_rfl⟩, ⟨by kernel_rfl, by kernel_rfl⟩, ⟨by kernel_rfl, by kernel_rfl⟩, ⟨by kernel_rfl, by kernel_rfl⟩, ⟨by kernel_rfl, by kernel_rfl⟩, ⟨by kernel_rfl, by kernel_rfl⟩, ⟨by kernel_rfl, by kernel_rfl⟩, trivial⟩

def Tryz.lay11 : Lay := [(283, ⟨.pointer, 1, 8, .pointer none⟩),
  (77, ⟨.other, 1, 8, .nilFunc⟩),
  (86, ⟨.struct [(0, 26), (1, 26)], 2, 48, .agg #[.slice none 0 0, .slice none 0 0]⟩),
  (94, ⟨.other, 1, 8, .nilFunc⟩),
  (105, ⟨.other, 1, 8, .nilFunc⟩),
  (111, ⟨.other, 1, 8, .nilFunc⟩),
  (168, ⟨.other, 1, 8, .nilFunc⟩),
  (172, ⟨.struct [(0, 27)], 1, 24, .agg #[.slice none 0 0]⟩),
  (176, ⟨.other, 1, 8, .nilFunc⟩),
  (183, ⟨.other, 1, 8, .nilFunc⟩),
  (207, ⟨.map 3 4, 1, 8, .map none⟩),
  (214, ⟨.other, 1, 8, .nilFunc⟩)]

theorem Tryz.okLay11 : LayOk Tryz.prog Tryz.lay11 := ⟨⟨by kernel_rfl, by kernel_rfl⟩, ⟨by kernel_rfl, by kernel_rfl⟩, ⟨by kernel_rfl, by kernel_rfl⟩, ⟨by kernel_rfl, by kernel_rfl⟩, ⟨by kernel_rfl, by kernel_rfl⟩, ⟨by kernel_rfl, by kernel_rfl⟩, ⟨by kernel_rfl, by kernel_rfl⟩, ⟨by kernel_rfl, by kernel_rfl⟩, ⟨by kernel_rfl, by kernel_rfl⟩, ⟨by kernel_rfl, by kernel_rfl⟩, ⟨by kernel_rfl, by kernel_rfl⟩, ⟨by kernel_rfl, by kernel_rfl⟩, trivial⟩

def Tryz.lay12 : Lay := [(216, ⟨.other, 1, 8, .nilFunc⟩),
  (217, ⟨.other, 1, 8, .nilFunc⟩),
  (250, ⟨.other, 1, 8, .nilFunc⟩),
  (251, ⟨.other, 1, 8, .nilFunc⟩),
  (254, ⟨.other, 1, 8, .nilFunc⟩),
  (289, ⟨.array 65 5, 65, 65, .agg #[.int .u8 (0), .int .u8 (0), .int .u8 (0), .int .u8 (0), .int .u8 (0), .int .u8 (0), .int .u8 (0), .int .u8 (0), .int .u8 (0), .int .u8 (0), .int .u8 (0), .int .u8 (0), .int .u8 (0), .int .u8 (0), .int .u8 (0), .int .u8 (0), .int .u8 (0), .int .u8 (0), .int .u8 (0), .int .u8 (0), .int .u8 (0), .int .u8 (0), .int .u8 (0), .int .u8 (0), .int .u8 (0), .int .u8 (0), .int .u8 (0), .int .u8 (0), .int .u8 (0), .int .u8 (0), .int .u8 (0), .int .u8 (0), .int .u8 (0), .int .u8 (0), .int .u8 (0), .int .u8 (0), .int .u8 (0), .int .u8 (0), .int .u8 (0), .int .u8 (0), .int .u8 (0), .int .u8 (0), .int .u8 (0), .int .u8 (0), .int .u8 (0), .int .u8 (0), .int .u8 (0), .int .u8 (0), .int .u8 (0), .int .u8 (0), .int .u8 (0), .int .u8 (0), .int .u8 (0), .int .u8 (0), .int .u8 (0), .int .u8 (0), .int .u8 (0), .int .u8 (0), .int .u8 (0), .int .u8 (0), .int .u8 (0), .int .u8 (0), .int .u8 (0), .int .u8 (0), .int .u8 (0)]⟩),
  (37, ⟨.other, 1, 8, .nilFunc⟩),
  (53, ⟨.other, 1, 8, .nilFunc⟩),
  (71, ⟨.other, 1, 8, .nilFunc⟩),
  (85, ⟨.other, 1, 8, .nilFunc⟩),
  (109, ⟨.other, 1, 8, .nilFunc⟩),
  (119, ⟨.other, 1, 8, .nilFunc⟩)]

theorem Tryz.okLay12 : LayOk Tryz.prog Tryz.lay12 := ⟨⟨by kernel_rfl, by kernel_rfl⟩, ⟨by kernel_rfl, by kernel_rfl⟩, ⟨by kernel_rfl, by kernel_rfl⟩, ⟨by kernel_rfl, by kernel_rfl⟩, ⟨by kernel_rfl, by kernel_rfl⟩, ⟨by kernel_rfl, by kernel_rfl⟩, ⟨by kernel_rfl, by kernel_rfl⟩, ⟨by kernel_rfl, by kernel_rfl⟩, ⟨by kernel_rfl, by kernel_rfl⟩, ⟨by kernel_rfl, by kernel_rfl⟩, ⟨by kernel_rfl, by kernel_rfl⟩, ⟨by kernel_rfl, by kernel_rfl⟩, trivial⟩

def Tryz.lay13 : Lay := [(126, ⟨.other, 1, 8, .nilFunc⟩),
  (133, ⟨.map 64 3, 1, 8, .map none⟩),
  (140, ⟨.struct [(0, 136), (8, 139)], 9, 72, .agg #[.int .i64 (0), .int .i64 (0), .int .i64 (0), .int .i64 (0), .int .i64 (0), .int .i64 (0), .int .i64 (0), .int .i64 (0), .map none]⟩),
  (154, ⟨.other, 1, 8, .nilFunc⟩),
  (179, ⟨.other, 1, 8, .nilFunc⟩),
  (185, ⟨.map 3 23, 1, 8, .map none⟩),
  (189, ⟨.array 16 26, 16, 384, .agg #[.slice none 0 0, .slice none 0 0, .slice none 0 0, .slice none 0 0, .slice none 0 0, .slice none 0 0, .slice none 0 0, .slice none 0 0, .slice none 0 0, .slice none 0 0, .slice none 0 0, .slice none 0 0, .slice none 0 0, .slice none 0 0, .slice none 0 0, .slice none 0 0]⟩),
  (192, ⟨.other, 1, 8, .nilFunc⟩),
  (230, ⟨.other, 1, 8, .nilFunc⟩),
  (240, ⟨.other, 1, 8, .nilFunc⟩),
  (265, ⟨.other, 1, 8, .nilFunc⟩),
  (288, ⟨.array 20 67, 20, 160, .agg #[.int .u64 (0), .int .u64 (0), .int .u64 (0), .int .u64 (0), .int .u64 (0), .int .u64 (0), .int .u64 (0), .int .u64 (0), .int .u64 (0), .int .u64 (0), .int .u64 (0), .int .u64 (0), .int .u64 (0), .int .u64 (0), .int .u64 (0), .int .u64 (0), .int .u64 (0), .int .u64 (0), .int .u64 (0), .int .u64 (0)]⟩)]

theorem Tryz.okLay13 : LayOk Tryz.prog Tryz.lay13 := ⟨⟨by kernel_rfl, by kernel_rfl⟩, ⟨by kernel_rfl, by kernel_rfl⟩, ⟨by kernel_rfl, by kernel_rfl⟩, ⟨by kernel_rfl, by kernel_rfl⟩, ⟨by kernel_rfl, by kernel_rfl⟩, ⟨by kernel_rfl, by kernel_rfl⟩, ⟨by kernel_rfl, by kernel_rfl⟩, ⟨by kernel_rfl, by kernel_rfl⟩, ⟨by kernel_rfl, by kernel_rfl⟩, ⟨by kernel_rfl, by kernel_rfl⟩, ⟨by kernel_rfl, by kernel_rfl⟩, ⟨by kernel_rfl, by kernel_rfl⟩, trivial⟩

def Tryz.lay14 : Lay := [(55, ⟨.other, 1, 8, .nilFunc⟩),
  (66, ⟨.other, 1, 8, .nilFunc⟩),
  (75, ⟨.other, 1, 8, .nilFunc⟩),
  (89, ⟨.other, 1, 8, .nilFunc⟩),
  (95, ⟨.other, 1, 8, .nilFunc⟩),
  (98, ⟨.other, 1, 8, .nilFunc⟩),
  (107, ⟨.other, 1, 8, .nilFunc⟩),
  (112, ⟨.other, 1, 8, .nilFunc⟩),
  (120, ⟨.struct [(0, 118), (1, 3), (2, 100), (3, 27)], 4, 64, .agg #[.pointer none, .int .i64 (0), .slice none 0 0, .slice none 0 0]⟩),
  (124, ⟨.other, 1, 8, .nilFunc⟩),
  (129, ⟨.other, 1, 8, .nilFunc⟩),
  (130, ⟨.other, 1, 8, .nilFunc⟩)]

theorem Tryz.okLay14 : LayOk Tryz.prog Tryz.lay14 := ⟨⟨by kernel_rfl, by kernel_rfl⟩, ⟨by kernel_rfl, by kernel_rfl⟩, ⟨by kernel_rfl, by kernel_rfl⟩, ⟨by kernel_rfl, by kernel_rfl⟩, ⟨by kernel_rfl, by kernel_rfl⟩, ⟨by kernel_rfl, by kernel_rfl⟩, ⟨by kernel_rfl, by kernel_rfl⟩, ⟨by kernel_rfl, by kernel_rfl⟩, ⟨by kernel_rfl, by kernel_rfl⟩, ⟨by kernel_rfl, by kernel_rfl⟩, ⟨by kernel_rfl, by kernel_rfl⟩, ⟨by kernel_rfl, by kernel_rfl⟩, trivial⟩

def Tryz.lay15 : Lay := [(146, ⟨.other, 1, 8, .nilFunc⟩),
  (153, ⟨.other, 1, 8, .nilFunc⟩),
  (156, ⟨.other, 1, 8, .nilFunc⟩),
  (157, ⟨.struct [(0, 155), (1, 156)], 2, 16, .agg #[.nilFunc, .nilFunc]⟩),
  (160, ⟨.other, 1, 8, .nilFunc⟩),
  (209, ⟨.other, 1, 8, .nilFunc⟩),
  (212, ⟨.other, 1, 8, .nilFunc⟩),
  (225, ⟨.other, 1, 8, .nilFunc⟩),
  (236, ⟨.other, 1, 8, .nilFunc⟩),
  (241, ⟨.other, 1, 8, .nilFunc⟩),
  (249, ⟨.other, 1, 8, .nilFunc⟩),
  (261, ⟨.other, 1, 8, .nilFunc⟩)]

theorem Tryz.okLay15 : LayOk Tryz.prog Tryz.lay15 := ⟨⟨by kernel_rfl, by kernel_rfl⟩, ⟨by kernel_rfl, by kernel_rfl⟩, ⟨by kernel_rfl, by kernel_rfl⟩, ⟨by kernel_rfl, by kernel_rfl⟩, ⟨by kernel_rfl, by kernel_rfl⟩, ⟨by kernel_rfl, by kernel_rfl⟩, ⟨by kernel_rfl, by kernel_rfl⟩, ⟨by kernel_rfl, by kernel_rfl⟩, ⟨by kernel_rfl, by kernel_rfl⟩, ⟨by kernel_rfl, by kernel_rfl⟩, ⟨by kernel_rfl, by kernel_rfl⟩, ⟨by kernel_rfl, by kernel_rfl⟩, trivial⟩

def Tryz.lay16 : Lay := [(281, ⟨.other, 1, 8, .nilFunc⟩),
  (290, ⟨.other, 1, 8, .nilFunc⟩),
  (84, ⟨.other, 1, 8, .nilFunc⟩),
  (110, ⟨.other, 1, 8, .nilFunc⟩),
  (123, ⟨.other, 1, 8, .nilFunc⟩),
  (143, ⟨.struct [(0, 3), (1, 3), (2, 3), (3, 3)], 4, 32, .agg #[.int .i64 (0), .int .i64 (0), .int .i64 (0), .int .i64 (0)]⟩),
  (151, ⟨.other, 1, 8, .nilFunc⟩),
  (163, ⟨.other, 1, 8, .nilFunc⟩),
  (171, ⟨.struct [(0, 27)], 1, 24, .agg #[.slice none 0 0]⟩),
  (178, ⟨.slice 93, 1, 24, .slice none 0 0⟩),
  (180, ⟨.other, 1, 8, .nilFunc⟩),
  (220, ⟨.other, 1, 8, .nilFunc⟩)]

theorem Tryz.okLay16 : LayOk Tryz.prog Tryz.lay16 := ⟨⟨by kernel_rfl, by kernel_rfl⟩, ⟨by kernel_rfl, by kernel_rfl⟩, ⟨by kernel_rfl, by kernel_rfl⟩, ⟨by kernel_rfl, by kernel_rfl⟩, ⟨by kernel_rfl, by kernel_rfl⟩, ⟨by kernel_rfl, by kernel_rfl⟩, ⟨by kernel_rfl, by kernel_rfl⟩, ⟨by kernel_rfl, by kernel_rfl⟩, ⟨by kernel_rfl, by kernel_rfl⟩, ⟨by kernel_rfl, by kernel_rfl⟩, ⟨by kernel_rfl, by kernel_rfl⟩, ⟨by kernel_rfl, by kernel_rfl⟩, trivial⟩

def Tryz.lay17 : Lay := [(222, ⟨.other, 1, 8, .nilFunc⟩),
  (276, ⟨.other, 1, 8, .nilFunc⟩),
  (292, ⟨.array 64 5, 64, 64, .agg #[.int .u8 (0), .int .u8 (0), .int .u8 (0), .int .u8 (0), .int .u8 (0), .int .u8 (0), .int .u8 (0), .int .u8 (0), .int .u8 (0), .int .u8 (0), .int .u8 (0), .int .u8 (0), .int .u8 (0), .int .u8 (0), .int .u8 (0), .int .u8 (0), .int .u8 (0), .int .u8 (0), .int .u8 (0), .int .u8 (0), .int .u8 (0), .int .u8 (0), .int .u8 (0), .int .u8 (0), .int .u8 (0), .int .u8 (0), .int .u8 (0), .int .u8 (0), .int .u8 (0), .int .u8 (0), .int .u8 (0), .int .u8 (0), .int .u8 (0), .int .u8 (0), .int .u8 (0), .int .u8 (0), .int .u8 (0), .int .u8 (0), .int .u8 (0), .int .u8 (0), .int .u8 (0), .int .u8 (0), .int .u8 (0), .int .u8 (0), .int .u8 (0), .int .u8 (0), .int .u8 (0), .int .u8 (0), .int .u8 (0), .int .u8 (0), .int .u8 (0), .int .u8 (0), .int .u8 (0), .int .u8 (0), .int .u8 (0), .int .u8 (0), .int .u8 (0), .int .u8 (0), .int .u8 (0), .int .u8 (0), .int .u8 (0), .int .u8 (0), .int .u8 (0), .int .u8 (0)]⟩),
  (78, ⟨.other, 1, 8, .nilFunc⟩),
  (79, ⟨.struct [(0, 25), (3, 27), (4, 3), (5, 3), (6, 3), (7, 50)], 13, 168, .agg #[.slice none 0 0, .int .i64 (0), .slice none 0 0, .slice none 0 0, .int .i64 (0), .int .i64 (0), .int .i64 (0), .int .i64 (0), .slice none 0 0, .int .i64 (0), .int .i64 (0), .int .i64 (0), .int .i64 (0)]⟩),
  (161, ⟨.other, 1, 8, .nilFunc⟩),
  (169, ⟨.other, 1, 8, .nilFunc⟩),
  (177, ⟨.other, 1, 8, .nilFunc⟩),
  (182, ⟨.other, 1, 8, .nilFunc⟩),
  (200, ⟨.other, 1, 8, .nilFunc⟩),
  (203, ⟨.other, 1, 8, .nilFunc⟩),
  (205, ⟨.struct [(0, 25), (3, 3), (4, 187), (5, 44)], 6, 112, .agg #[.slice none 0 0, .int .i64 (0), .slice none 0 0, .int .i64 (0), .slice none 0 0, .slice none 0 0]⟩)]

theorem Tryz.okLay17 : LayOk Tryz.prog Tryz.lay17 := ⟨⟨by kernel_rfl, by kernel_rfl⟩, ⟨by kernel_rfl, by kernel_rfl⟩, ⟨by kernel_rfl, by kernel_rfl⟩, ⟨by kernel_rfl, by kernel_rfl⟩, ⟨by kernel_rfl, by kernel_rfl⟩, ⟨by kernel_rfl, by kernel_rfl⟩, ⟨by kernel_rfl, by kernel_rfl⟩, ⟨by kernel_rfl, by kernel_rfl⟩, ⟨by kernel_rfl, by kernel_rfl⟩, ⟨by kernel_rfl, by kernel_rfl⟩, ⟨by kernel_rfl, by kernel_rfl⟩, ⟨by kernel_rfl, by kernel_rfl⟩, trivial⟩

def Tryz.lay18 : Lay := [(219, ⟨.other, 1, 8, .nilFunc⟩),
  (221, ⟨.other, 1, 8, .nilFunc⟩),
  (224, ⟨.other, 1, 8, .nilFunc⟩),
  (227, ⟨.other, 1, 8, .nilFunc⟩),
  (229, ⟨.other, 1, 8, .nilFunc⟩),
  (238, ⟨.other, 1, 8, .nilFunc⟩),
  (246, ⟨.other, 1, 8, .nilFunc⟩),
  (266, ⟨.other, 1, 8, .nilFunc⟩),
  (272, ⟨.other, 1, 8, .nilFunc⟩),
  (273, ⟨.other, 1, 8, .nilFunc⟩),
  (280, ⟨.other, 1, 8, .nilFunc⟩),
  (285, ⟨.other, 1, 8, .nilFunc⟩)]

theorem Tryz.okLay18 : LayOk Tryz.prog Tryz.lay18 := ⟨⟨by kernel_rfl, by kernel_rfl⟩, ⟨by kernel_rfl, by kernel_rfl⟩, ⟨by kernel_rfl, by kernel_rfl⟩, ⟨by kernel_rfl, by kernel_rfl⟩, ⟨by kernel_rfl, by kernel_rfl⟩, ⟨by kernel_rfl, by kernel_rfl⟩, ⟨by kernel_rfl, by kernel_rfl⟩, ⟨by kernel_rfl, by kernel_rfl⟩, ⟨by kernel_rfl, by kernel_rfl⟩, ⟨by kernel_rfl, by kernel_rfl⟩, ⟨by kernel_rfl, by kernel_rfl⟩, ⟨by kernel_rfl, by kernel_rfl⟩, trivial⟩

def Tryz.lay19 : Lay := [(300, ⟨.int .u8, 1, 1, .int .u8 (0)⟩),
  (306, ⟨.struct [(0, 12), (1, 12), (2, 260), (3, 299), (4, 5), (5, 5), (6, 300), (7, 301), (8, 302), (9, 303), (10, 304)], 11, 48, .agg #[.int .u64 (0), .int .u64 (0), .int .u32 (0), .int .u8 (0), .int .u8 (0), .int .u8 (0), .int .u8 (0), .nilFunc, .pointer none, .int .i32 (0), .int .i32 (0)]⟩),
  (74, ⟨.other, 1, 8, .nilFunc⟩),
  (83, ⟨.other, 1, 8, .nilFunc⟩),
  (101, ⟨.struct [(0, 96), (1, 3), (2, 100), (3, 99), (4, 27)], 5, 72, .agg #[.pointer none, .int .i64 (0), .slice none 0 0, .pointer none, .slice none 0 0]⟩),
  (131, ⟨.other, 1, 8, .nilFunc⟩),
  (149, ⟨.struct [(0, 4), (1, 3), (2, 3)], 3, 24, .agg #[.bool false, .int .i64 (0), .int .i64 (0)]⟩),
  (167, ⟨.other, 1, 8, .nilFunc⟩),
  (188, ⟨.array 16 26, 16, 384, .agg #[.slice none 0 0, .slice none 0 0, .slice none 0 0, .slice none 0 0, .slice none 0 0, .slice none 0 0, .slice none 0 0, .slice none 0 0, .slice none 0 0, .slice none 0 0, .slice none 0 0, .slice none 0 0, .slice none 0 0, .slice none 0 0, .slice none 0 0, .slice none 0 0]⟩),
  (196, ⟨.other, 1, 8, .nilFunc⟩),
  (218, ⟨.map 3 158, 1, 8, .map none⟩),
  (226, ⟨.other, 1, 8, .nilFunc⟩)]

theorem Tryz.okLay19 : LayOk Tryz.prog Tryz.lay19 := ⟨⟨by kernel_rfl, by kernel_rfl⟩, ⟨by kernel_rfl, by kernel_rfl⟩, ⟨by kernel_rfl, by kernel_rfl⟩, ⟨by kernel_rfl, by kernel_rfl⟩, ⟨by kernel_rfl, by kernel_rfl⟩, ⟨by kernel_rfl, by kernel_rfl⟩, ⟨by kernel_rfl, by kernel_rfl⟩, ⟨by kernel_rfl, by kernel_rfl⟩, ⟨by kernel_rfl, by kernel_rfl⟩, ⟨by kernel_rfl, by kernel_rfl⟩, ⟨by kernel_rfl, by kernel_rfl⟩, ⟨by kernel_rfl, by kernel_rfl⟩, trivial⟩

def Tryz.lay20 : Lay := [(228, ⟨.other, 1, 8, .nilFunc⟩),
  (237, ⟨.other, 1, 8, .nilFunc⟩),
  (243, ⟨.other, 1, 8, .nilFunc⟩),
  (255, ⟨.other, 1, 8, .nilFunc⟩),
  (259, ⟨.other, 1, 8, .nilFunc⟩),
  (263, ⟨.other, 1, 8, .nilFunc⟩),
  (277, ⟨.array 24 5, 24, 24, .agg #[.int .u8 (0), .int .u8 (0), .int .u8 (0), .int .u8 (0), .int .u8 (0), .int .u8 (0), .int .u8 (0), .int .u8 (0), .int .u8 (0), .int .u8 (0), .int .u8 (0), .int .u8 (0), .int .u8 (0), .int .u8 (0), .int .u8 (0), .int .u8 (0), .int .u8 (0), .int .u8 (0), .int .u8 (0), .int .u8 (0), .int .u8 (0), .int .u8 (0), .int .u8 (0), .int .u8 (0)]⟩),
  (282, ⟨.other, 1, 8, .nilFunc⟩),
  (287, ⟨.other, 1, 8, .nilFunc⟩),
  (297, ⟨.struct [(0, 295)], 0, 0, .agg #[]⟩),
  (298, ⟨.other, 1, 8, .nilFunc⟩),
  (299, ⟨.int .u8, 1, 1, .int .u8 (0)⟩)]

theorem Tryz.okLay20 : LayOk Tryz.prog Tryz.lay20 := ⟨⟨by kernel_rfl, by kernel_rfl⟩, ⟨by kernel_rfl, by kernel_rfl⟩, ⟨by kernel_rfl, by kernel_rfl⟩, ⟨by kernel_rfl, by kernel_rfl⟩, ⟨by kernel_rfl, by kernel_rfl⟩, ⟨by kernel_rfl, by kernel_rfl⟩, ⟨by kernel_rfl, by kernel_rfl⟩, ⟨by kernel_rfl, by kernel_rfl⟩, ⟨by kernel_rfl, by kernel_rfl⟩, ⟨by kernel_rfl, by kernel_rfl⟩, ⟨by kernel_rfl, by kernel_rfl⟩, ⟨by kernel_rfl, by kernel_rfl⟩, trivial⟩

def Tryz.lay21 : Lay := [(304, ⟨.int .i32, 1, 4, .int .i32 (0)⟩),
  (135, ⟨.struct [(0, 3), (1, 3), (2, 3), (3, 3), (4, 3), (5, 3), (6, 3), (7, 3)], 8, 64, .agg #[.int .i64 (0), .int .i64 (0), .int .i64 (0), .int .i64 (0), .int .i64 (0), .int .i64 (0), .int .i64 (0), .int .i64 (0)]⟩),
  (137, ⟨.struct [(0, 3), (1, 3)], 2, 16, .agg #[.int .i64 (0), .int .i64 (0)]⟩),
  (190, ⟨.struct [(0, 25), (3, 186), (4, 3), (5, 187), (6, 189)], 22, 480, .agg #[.slice none 0 0, .int .i64 (0), .slice none 0 0, .map none, .int .i64 (0), .slice none 0 0, .slice none 0 0, .slice none 0 0, .slice none 0 0, .slice none 0 0, .slice none 0 0, .slice none 0 0, .slice none 0 0, .slice none 0 0, .slice none 0 0, .slice none 0 0, .slice none 0 0, .slice none 0 0, .slice none 0 0, .slice none 0 0, .slice none 0 0, .slice none 0 0]⟩),
  (193, ⟨.struct [(0, 3), (1, 3)], 2, 16, .agg #[.int .i64 (0), .int .i64 (0)]⟩),
  (197, ⟨.struct [(0, 3), (1, 187), (2, 44)], 3, 56, .agg #[.int .i64 (0), .slice none 0 0, .slice none 0 0]⟩),
  (239, ⟨.other, 1, 8, .nilFunc⟩),
  (247, ⟨.struct [(0, 136), (8, 194), (10, 232)], 11, 88, .agg #[.int .i64 (0), .int .i64 (0), .int .i64 (0), .int .i64 (0), .int .i64 (0), .int .i64 (0), .int .i64 (0), .int .i64 (0), .int .i64 (0), .int .i64 (0), .nilFunc]⟩),
  (258, ⟨.other, 1, 8, .nilFunc⟩),
  (262, ⟨.other, 1, 8, .nilFunc⟩),
  (267, ⟨.other, 1, 8, .nilFunc⟩),
  (268, ⟨.other, 1, 8, .nilFunc⟩)]

theorem Tryz.okLay21 : LayOk Tryz.prog Tryz.lay21 := ⟨⟨by kernel_rfl, by kernel_rfl⟩, ⟨by kernel_rfl, by kernel_rfl⟩, ⟨by kernel_rfl, by kernel_rfl⟩, ⟨by kernel_rfl, by kernel_rfl⟩, ⟨by kernel_rfl, by kernel_rfl⟩, ⟨by kernel_rfl, by kernel_rfl⟩, ⟨by kernel_rfl, by kernel_rfl⟩, ⟨by kernel_rfl, by kernel_rfl⟩, ⟨by kernel_rfl, by kernel_rfl⟩, ⟨by kernel_rfl, by kernel_rfl⟩, ⟨by kernel_rfl, by kernel_rfl⟩, ⟨by kernel_rfl, by kernel_rfl⟩, trivial⟩

def Tryz.lay22 : Lay := [(271, ⟨.other, 1, 8, .nilFunc⟩),
  (275, ⟨.other, 1, 8, .nilFunc⟩),
  (278, ⟨.other, 1, 8, .nilFunc⟩),
  (286, ⟨.other, 1, 8, .nilFunc⟩),
  (295, ⟨.array 0 16, 0, 0, .agg #[]⟩),
  (307, ⟨.other, 1, 8, .pointer none⟩),
  (233, ⟨.struct [(0, 3), (1, 232)], 2, 16, .agg #[.int .i64 (0), .nilFunc]⟩),
  (264, ⟨.other, 1, 8, .nilFunc⟩),
  (269, ⟨.other, 1, 8, .nilFunc⟩),
  (296, ⟨.struct [(0, 295)], 0, 0, .agg #[]⟩),
  (301, ⟨.other, 1, 8, .nilFunc⟩),
  (303, ⟨.int .i32, 1, 4, .int .i32 (0)⟩)]

theorem Tryz.okLay22 : LayOk Tryz.prog Tryz.lay22 := ⟨⟨by kernel_rfl, by kernel_rfl⟩, ⟨by kernel_rfl, by kernel_rfl⟩, ⟨by kernel_rfl, by kernel_rfl⟩, ⟨by kernel_rfl, by kernel_rfl⟩, ⟨by kernel_rfl, by kernel_rfl⟩, ⟨by kernel_rfl, by kernel_rfl⟩, ⟨by kernel_rfl, by kernel_rfl⟩, ⟨by kernel_rfl, by kernel_rfl⟩, ⟨by kernel_rfl, by kernel_rfl⟩, ⟨by kernel_rfl, by kernel_rfl⟩, ⟨by kernel_rfl, by kernel_rfl⟩, ⟨by kernel_rfl, by kernel_rfl⟩, trivial⟩

def Tryz.lay23 : Lay := [(302, ⟨.pointer, 1, 8, .pointer none⟩),
  (305, ⟨.struct [(0, 12), (1, 12), (2, 260), (3, 299), (4, 5), (5, 5), (6, 300), (7, 301), (8, 302), (9, 303), (10, 304)], 11, 48, .agg #[.int .u64 (0), .int .u64 (0), .int .u32 (0), .int .u8 (0), .int .u8 (0), .int .u8 (0), .int .u8 (0), .nilFunc, .pointer none, .int .i32 (0), .int .i32 (0)]⟩)]

theorem Tryz.okLay23 : LayOk Tryz.prog Tryz.lay23 := ⟨⟨by kernel_rfl, by kernel_rfl⟩, ⟨by kernel_rfl, by kernel_rfl⟩, trivial⟩

theorem LayOk.app {P : Program} : ∀ {A B : Lay}, LayOk P A → LayOk P B → LayOk P (A ++ B)
  | [], _, _, h => h
  | _ :: _, _, ⟨h1, h2⟩, h => ⟨h1, LayOk.app h2 h⟩

def Tryz.lay : Lay := [(1, ⟨.other, 1, 8, .nilFunc⟩),
  (3, ⟨.int .i64, 1, 8, .int .i64 (0)⟩),
  (4, ⟨.bool, 1, 1, .bool false⟩),
  (2, ⟨.int .i64, 1, 8, .int .i64 (0)⟩),
  (8, ⟨.struct [(0, 2), (1, 3), (2, 4), (3, 6)], 4, 24, .agg #[.int .i64 (0), .int .i64 (0), .bool false, .int .u8 (0)]⟩),
  (27, ⟨.slice 64, 1, 24, .slice none 0 0⟩),
  (5, ⟨.int .u8, 1, 1, .int .u8 (0)⟩),
  (34, ⟨.int .i64, 1, 8, .int .i64 (0)⟩),
  (26, ⟨.slice 3, 1, 24, .slice none 0 0⟩),
  (6, ⟨.int .u8, 1, 1, .int .u8 (0)⟩),
  (64, ⟨.struct [(0, 3), (1, 3)], 2, 16, .agg #[.int .i64 (0), .int .i64 (0)]⟩),
  (7, ⟨.struct [(0, 2), (1, 3), (2, 4), (3, 6)], 4, 24, .agg #[.int .i64 (0), .int .i64 (0), .bool false, .int .u8 (0)]⟩),
  (25, ⟨.struct [(0, 22), (1, 3), (2, 23)], 3, 56, .agg #[.slice none 0 0, .int .i64 (0), .slice none 0 0]⟩),
  (136, ⟨.struct [(0, 3), (1, 3), (2, 3), (3, 3), (4, 3), (5, 3), (6, 3), (7, 3)], 8, 64, .agg #[.int .i64 (0), .int .i64 (0), .int .i64 (0), .int .i64 (0), .int .i64 (0), .int .i64 (0), .int .i64 (0), .int .i64 (0)]⟩),
  (50, ⟨.struct [(0, 3), (1, 26), (2, 3), (3, 3), (4, 3), (5, 3)], 6, 64, .agg #[.int .i64 (0), .slice none 0 0, .int .i64 (0), .int .i64 (0), .int .i64 (0), .int .i64 (0)]⟩),
  (44, ⟨.slice 26, 1, 24, .slice none 0 0⟩),
  (67, ⟨.int .u64, 1, 8, .int .u64 (0)⟩),
  (12, ⟨.int .u64, 1, 8, .int .u64 (0)⟩),
  (80, ⟨.struct [(0, 25), (3, 27), (4, 3), (5, 3), (6, 3), (7, 50)], 13, 168, .agg #[.slice none 0 0, .int .i64 (0), .slice none 0 0, .slice none 0 0, .int .i64 (0), .int .i64 (0), .int .i64 (0), .int .i64 (0), .slice none 0 0, .int .i64 (0), .int .i64 (0), .int .i64 (0), .int .i64 (0)]⟩),
  (260, ⟨.int .u32, 1, 4, .int .u32 (0)⟩),
  (54, ⟨.struct [(0, 3), (1, 26), (2, 3), (3, 3), (4, 3), (5, 3)], 6, 64, .agg #[.int .i64 (0), .slice none 0 0, .int .i64 (0), .int .i64 (0), .int .i64 (0), .int .i64 (0)]⟩),
  (144, ⟨.struct [(0, 3), (1, 3), (2, 3), (3, 3)], 4, 32, .agg #[.int .i64 (0), .int .i64 (0), .int .i64 (0), .int .i64 (0)]⟩),
  (29, ⟨.struct [(0, 26), (1, 27), (2, 3)], 3, 56, .agg #[.slice none 0 0, .slice none 0 0, .int .i64 (0)]⟩),
  (58, ⟨.slice 5, 1, 24, .slice none 0 0⟩),
  (22, ⟨.slice 136, 1, 24, .slice none 0 0⟩),
  (16, ⟨.pointer, 1, 8, .pointer none⟩),
  (96, ⟨.pointer, 1, 8, .pointer none⟩),
  (121, ⟨.struct [(0, 118), (1, 3), (2, 100), (3, 27)], 4, 64, .agg #[.pointer none, .int .i64 (0), .slice none 0 0, .slice none 0 0]⟩),
  (138, ⟨.struct [(0, 3), (1, 3)], 2, 16, .agg #[.int .i64 (0), .int .i64 (0)]⟩),
  (17, ⟨.pointer, 1, 8, .pointer none⟩),
  (30, ⟨.slice 87, 1, 24, .slice none 0 0⟩),
  (231, ⟨.other, 1, 8, .nilFunc⟩),
  (194, ⟨.struct [(0, 3), (1, 3)], 2, 16, .agg #[.int .i64 (0), .int .i64 (0)]⟩),
  (15, ⟨.pointer, 1, 8, .pointer none⟩),
  (24, ⟨.struct [(0, 22), (1, 3), (2, 23)], 3, 56, .agg #[.slice none 0 0, .int .i64 (0), .slice none 0 0]⟩),
  (118, ⟨.pointer, 1, 8, .pointer none⟩),
  (242, ⟨.int .u64, 1, 8, .int .u64 (0)⟩),
  (150, ⟨.struct [(0, 4), (1, 3), (2, 3)], 3, 24, .agg #[.bool false, .int .i64 (0), .int .i64 (0)]⟩),
  (33, ⟨.other, 1, 8, .nilFunc⟩),
  (38, ⟨.struct [(0, 26), (1, 27), (2, 3)], 3, 56, .agg #[.slice none 0 0, .slice none 0 0, .int .i64 (0)]⟩),
  (93, ⟨.other, 1, 8, .nilFunc⟩),
  (19, ⟨.struct [(0, 17)], 1, 8, .agg #[.pointer none]⟩),
  (23, ⟨.slice 144, 1, 24, .slice none 0 0⟩),
  (99, ⟨.pointer, 1, 8, .pointer none⟩),
  (162, ⟨.other, 1, 8, .nilFunc⟩),
  (100, ⟨.slice 4, 1, 24, .slice none 0 0⟩),
  (148, ⟨.slice 150, 1, 24, .slice none 0 0⟩),
  (20, ⟨.other, 1, 16, .nilIface⟩),
  (87, ⟨.struct [(0, 26), (1, 26)], 2, 48, .agg #[.slice none 0 0, .slice none 0 0]⟩),
  (187, ⟨.slice 194, 1, 24, .slice none 0 0⟩),
  (39, ⟨.slice 125, 1, 24, .slice none 0 0⟩),
  (184, ⟨.other, 1, 8, .nilFunc⟩),
  (21, ⟨.int .i32, 1, 4, .int .i32 (0)⟩),
  (206, ⟨.struct [(0, 25), (3, 3), (4, 187), (5, 44)], 6, 112, .agg #[.slice none 0 0, .int .i64 (0), .slice none 0 0, .int .i64 (0), .slice none 0 0, .slice none 0 0]⟩),
  (18, ⟨.struct [(0, 17)], 1, 8, .agg #[.pointer none]⟩),
  (274, ⟨.pointer, 1, 8, .pointer none⟩),
  (141, ⟨.struct [(0, 136), (8, 139)], 9, 72, .agg #[.int .i64 (0), .int .i64 (0), .int .i64 (0), .int .i64 (0), .int .i64 (0), .int .i64 (0), .int .i64 (0), .int .i64 (0), .map none]⟩),
  (56, ⟨.other, 1, 8, .nilFunc⟩),
  (65, ⟨.other, 1, 8, .nilFunc⟩),
  (158, ⟨.struct [(0, 155), (1, 156)], 2, 16, .agg #[.nilFunc, .nilFunc]⟩),
  (244, ⟨.pointer, 1, 8, .pointer none⟩),
  (60, ⟨.other, 1, 8, .nilFunc⟩),
  (114, ⟨.other, 1, 8, .nilFunc⟩),
  (191, ⟨.struct [(0, 25), (3, 186), (4, 3), (5, 187), (6, 189)], 22, 480, .agg #[.slice none 0 0, .int .i64 (0), .slice none 0 0, .map none, .int .i64 (0), .slice none 0 0, .slice none 0 0, .slice none 0 0, .slice none 0 0, .slice none 0 0, .slice none 0 0, .slice none 0 0, .slice none 0 0, .slice none 0 0, .slice none 0 0, .slice none 0 0, .slice none 0 0, .slice none 0 0, .slice none 0 0, .slice none 0 0, .slice none 0 0, .slice none 0 0]⟩),
  (252, ⟨.int .i64, 1, 8, .int .i64 (0)⟩),
  (32, ⟨.other, 1, 8, .nilFunc⟩),
  (181, ⟨.other, 1, 8, .nilFunc⟩),
  (92, ⟨.other, 1, 8, .nilFunc⟩),
  (125, ⟨.struct [(0, 26), (1, 26)], 2, 48, .agg #[.slice none 0 0, .slice none 0 0]⟩),
  (175, ⟨.other, 1, 8, .nilFunc⟩),
  (270, ⟨.int .u64, 1, 8, .int .u64 (0)⟩),
  (234, ⟨.struct [(0, 3), (1, 232)], 2, 16, .agg #[.int .i64 (0), .nilFunc]⟩),
  (210, ⟨.pointer, 1, 8, .pointer none⟩),
  (31, ⟨.other, 1, 8, .nilFunc⟩),
  (43, ⟨.other, 1, 8, .nilFunc⟩),
  (122, ⟨.slice 121, 1, 24, .slice none 0 0⟩),
  (102, ⟨.struct [(0, 96), (1, 3), (2, 100), (3, 99), (4, 27)], 5, 72, .agg #[.pointer none, .int .i64 (0), .slice none 0 0, .pointer none, .slice none 0 0]⟩),
  (164, ⟨.other, 1, 8, .nilFunc⟩),
  (186, ⟨.map 3 23, 1, 8, .map none⟩),
  (248, ⟨.struct [(0, 136), (8, 194), (10, 232)], 11, 88, .agg #[.int .i64 (0), .int .i64 (0), .int .i64 (0), .int .i64 (0), .int .i64 (0), .int .i64 (0), .int .i64 (0), .int .i64 (0), .int .i64 (0), .int .i64 (0), .nilFunc]⟩),
  (88, ⟨.array 2 3, 2, 16, .agg #[.int .i64 (0), .int .i64 (0)]⟩),
  (198, ⟨.struct [(0, 3), (1, 187), (2, 44)], 3, 56, .agg #[.int .i64 (0), .slice none 0 0, .slice none 0 0]⟩),
  (36, ⟨.other, 1, 8, .nilFunc⟩),
  (48, ⟨.other, 1, 8, .nilFunc⟩),
  (57, ⟨.other, 1, 8, .nilFunc⟩),
  (103, ⟨.slice 99, 1, 24, .slice none 0 0⟩),
  (195, ⟨.other, 1, 8, .nilFunc⟩),
  (28, ⟨.struct [(0, 26), (1, 27), (2, 3)], 3, 56, .agg #[.slice none 0 0, .slice none 0 0, .int .i64 (0)]⟩),
  (46, ⟨.other, 1, 8, .nilFunc⟩),
  (127, ⟨.other, 1, 8, .nilFunc⟩),
  (166, ⟨.other, 1, 8, .nilFunc⟩),
  (232, ⟨.other, 1, 8, .nilFunc⟩),
  (70, ⟨.other, 1, 8, .nilFunc⟩),
  (139, ⟨.map 3 138, 1, 8, .map none⟩),
  (145, ⟨.pointer, 1, 8, .pointer none⟩),
  (170, ⟨.pointer, 1, 8, .pointer none⟩),
  (174, ⟨.other, 1, 8, .nilFunc⟩),
  (40, ⟨.other, 1, 8, .nilFunc⟩),
  (91, ⟨.other, 1, 8, .nilFunc⟩),
  (115, ⟨.other, 1, 8, .nilFunc⟩),
  (134, ⟨.slice 141, 1, 24, .slice none 0 0⟩),
  (204, ⟨.other, 1, 8, .nilFunc⟩),
  (41, ⟨.other, 1, 8, .nilFunc⟩),
  (106, ⟨.other, 1, 8, .nilFunc⟩),
  (147, ⟨.slice 148, 1, 24, .slice none 0 0⟩),
  (52, ⟨.other, 1, 8, .nilFunc⟩),
  (62, ⟨.other, 1, 8, .nilFunc⟩),
  (63, ⟨.struct [(0, 3), (1, 3)], 2, 16, .agg #[.int .i64 (0), .int .i64 (0)]⟩),
  (73, ⟨.other, 1, 8, .nilFunc⟩),
  (108, ⟨.other, 1, 8, .nilFunc⟩),
  (132, ⟨.other, 1, 8, .nilFunc⟩),
  (142, ⟨.slice 138, 1, 24, .slice none 0 0⟩),
  (201, ⟨.other, 1, 8, .nilFunc⟩),
  (213, ⟨.other, 1, 8, .nilFunc⟩),
  (256, ⟨.other, 1, 8, .nilFunc⟩),
  (291, ⟨.array 32 5, 32, 32, .agg #[.int .u8 (0), .int .u8 (0), .int .u8 (0), .int .u8 (0), .int .u8 (0), .int .u8 (0), .int .u8 (0), .int .u8 (0), .int .u8 (0), .int .u8 (0), .int .u8 (0), .int .u8 (0), .int .u8 (0), .int .u8 (0), .int .u8 (0), .int .u8 (0), .int .u8 (0), .int .u8 (0), .int .u8 (0), .int .u8 (0), .int .u8 (0), .int .u8 (0), .int .u8 (0), .int .u8 (0), .int .u8 (0), .int .u8 (0), .int .u8 (0), .int .u8 (0), .int .u8 (0), .int .u8 (0), .int .u8 (0), .int .u8 (0)]⟩),
  (42, ⟨.other, 1, 8, .nilFunc⟩),
  (47, ⟨.other, 1, 8, .nilFunc⟩),
  (69, ⟨.other, 1, 8, .nilFunc⟩),
  (76, ⟨.other, 1, 8, .nilFunc⟩),
  (90, ⟨.other, 1, 8, .nilFunc⟩),
  (113, ⟨.map 9 4, 1, 8, .map none⟩),
  (155, ⟨.other, 1, 8, .nilFunc⟩),
  (202, ⟨.other, 1, 8, .nilFunc⟩),
  (215, ⟨.other, 1, 8, .nilFunc⟩),
  (49, ⟨.struct [(0, 3), (1, 26), (2, 3), (3, 3), (4, 3), (5, 3)], 6, 64, .agg #[.int .i64 (0), .slice none 0 0, .int .i64 (0), .int .i64 (0), .int .i64 (0), .int .i64 (0)]⟩),
  (61, ⟨.other, 1, 8, .nilFunc⟩),
  (82, ⟨.other, 1, 8, .nilFunc⟩),
  (116, ⟨.other, 1, 8, .nilFunc⟩),
  (117, ⟨.other, 1, 8, .nilFunc⟩),
  (165, ⟨.other, 1, 8, .nilFunc⟩),
  (173, ⟨.other, 1, 8, .nilFunc⟩),
  (283, ⟨.pointer, 1, 8, .pointer none⟩),
  (77, ⟨.other, 1, 8, .nilFunc⟩),
  (86, ⟨.struct [(0, 26), (1, 26)], 2, 48, .agg #[.slice none 0 0, .slice none 0 0]⟩),
  (94, ⟨.other, 1, 8, .nilFunc⟩),
  (105, ⟨.other, 1, 8, .nilFunc⟩),
  (111, ⟨.other, 1, 8, .nilFunc⟩),
  (168, ⟨.other, 1, 8, .nilFunc⟩),
  (172, ⟨.struct [(0, 27)], 1, 24, .agg #[.slice none 0 0]⟩),
  (176, ⟨.other, 1, 8, .nilFunc⟩),
  (183, ⟨.other, 1, 8, .nilFunc⟩),
  (207, ⟨.map 3 4, 1, 8, .map none⟩),
  (214, ⟨.other, 1, 8, .nilFunc⟩),
  (216, ⟨.other, 1, 8, .nilFunc⟩),
  (217, ⟨.other, 1, 8, .nilFunc⟩),
  (250, ⟨.other, 1, 8, .nilFunc⟩),
  (251, ⟨.other, 1, 8, .nilFunc⟩),
  (254, ⟨.other, 1, 8, .nilFunc⟩),
  (289, ⟨.array 65 5, 65, 65, .agg #[.int .u8 (0), .int .u8 (0), .int .u8 (0), .int .u8 (0), .int .u8 (0), .int .u8 (0), .int .u8 (0), .int .u8 (0), .int .u8 (0), .int .u8 (0), .int .u8 (0), .int .u8 (0), .int .u8 (0), .int .u8 (0), .int .u8 (0), .int .u8 (0), .int .u8 (0), .int .u8 (0), .int .u8 (0), .int .u8 (0), .int .u8 (0), .int .u8 (0), .int .u8 (0), .int .u8 (0), .int .u8 (0), .int .u8 (0), .int .u8 (0), .int .u8 (0), .int .u8 (0), .int .u8 (0), .int .u8 (0), .int .u8 (0), .int .u8 (0), .int .u8 (0), .int .u8 (0), .int .u8 (0), .int .u8 (0), .int .u8 (0), .int .u8 (0), .int .u8 (0), .int .u8 (0), .int .u8 (0), .int .u8 (0), .int .u8 (0), .int .u8 (0), .int .u8 (0), .int .u8 (0), .int .u8 (0), .int .u8 (0), .int .u8 (0), .int .u8 (0), .int .u8 (0), .int .u8 (0), .int .u8 (0), .int .u8 (0), .int .u8 (0), .int .u8 (0), .int .u8 (0), .int .u8 (0), .int .u8 (0), .int .u8 (0), .int .u8 (0), .int .u8 (0), .int .u8 (0), .int .u8 (0)]⟩),
  (37, ⟨.other, 1, 8, .nilFunc⟩),
  (53, ⟨.other, 1, 8, .nilFunc⟩),
  (71, ⟨.other, 1, 8, .nilFunc⟩),
  (85, ⟨.other, 1, 8, .nilFunc⟩),
  (109, ⟨.other, 1, 8, .nilFunc⟩),
  (119, ⟨.other, 1, 8, .nilFunc⟩),
  (126, ⟨.other, 1, 8, .nilFunc⟩),
  (133, ⟨.map 64 3, 1, 8, .map none⟩),
  (140, ⟨.struct [(0, 136), (8, 139)], 9, 72, .agg #[.int .i64 (0), .int .i64 (0), .int .i64 (0), .int .i64 (0), .int .i64 (0), .int .i64 (0), .int .i64 (0), .int .i64 (0), .map none]⟩),
  (154, ⟨.other, 1, 8, .nilFunc⟩),
  (179, ⟨.other, 1, 8, .nilFunc⟩),
  (185, ⟨.map 3 23, 1, 8, .map none⟩),
  (189, ⟨.array 16 26, 16, 384, .agg #[.slice none 0 0, .slice none 0 0, .slice none 0 0, .slice none 0 0, .slice none 0 0, .slice none 0 0, .slice none 0 0, .slice none 0 0, .slice none 0 0, .slice none 0 0, .slice none 0 0, .slice none 0 0, .slice none 0 0, .slice none 0 0, .slice none 0 0, .slice none 0 0]⟩),
  (192, ⟨.other, 1, 8, .nilFunc⟩),
  (230, ⟨.other, 1, 8, .nilFunc⟩),
  (240, ⟨.other, 1, 8, .nilFunc⟩),
  (265, ⟨.other, 1, 8, .nilFunc⟩),
  (288, ⟨.array 20 67, 20, 160, .agg #[.int .u64 (0), .int .u64 (0), .int .u64 (0), .int .u64 (0), .int .u64 (0), .int .u64 (0), .int .u64 (0), .int .u64 (0), .int .u64 (0), .int .u64 (0), .int .u64 (0), .int .u64 (0), .int .u64 (0), .int .u64 (0), .int .u64 (0), .int .u64 (0), .int .u64 (0), .int .u64 (0), .int .u64 (0), .int .u64 (0)]⟩),
  (55, ⟨.other, 1, 8, .nilFunc⟩),
  (66, ⟨.other, 1, 8, .nilFunc⟩),
  (75, ⟨.other, 1, 8, .nilFunc⟩),
  (89, ⟨.other, 1, 8, .nilFunc⟩),
  (95, ⟨.other, 1, 8, .nilFunc⟩),
  (98, ⟨.other, 1, 8, .nilFunc⟩),
  (107, ⟨.other, 1, 8, .nilFunc⟩),
  (112, ⟨.other, 1, 8, .nilFunc⟩),
  (120, ⟨.struct [(0, 118), (1, 3), (2, 100), (3, 27)], 4, 64, .agg #[.pointer none, .int .i64 (0), .slice none 0 0, .slice none 0 0]⟩),
  (124, ⟨.other, 1, 8, .nilFunc⟩),
  (129, ⟨.other, 1, 8, .nilFunc⟩),
  (130, ⟨.other, 1, 8, .nilFunc⟩),
  (146, ⟨.other, 1, 8, .nilFunc⟩),
  (153, ⟨.other, 1, 8, .nilFunc⟩),
  (156, ⟨.other, 1, 8, .nilFunc⟩),
  (157, ⟨.struct [(0, 155), (1, 156)], 2, 16, .agg #[.nilFunc, .nilFunc]⟩),
  (160, ⟨.other, 1, 8, .nilFunc⟩),
  (209, ⟨.other, 1, 8, .nilFunc⟩),
  (212, ⟨.other, 1, 8, .nilFunc⟩),
  (225, ⟨.other, 1, 8, .nilFunc⟩),
  (236, ⟨.other, 1, 8, .nilFunc⟩),
  (241, ⟨.other, 1, 8, .nilFunc⟩),
  (249, ⟨.other, 1, 8, .nilFunc⟩),
  (261, ⟨.other, 1, 8, .nilFunc⟩),
  (281, ⟨.other, 1, 8, .nilFunc⟩),
  (290, ⟨.other, 1, 8, .nilFunc⟩),
  (84, ⟨.other, 1, 8, .nilFunc⟩),
  (110, ⟨.other, 1, 8, .nilFunc⟩),
  (123, ⟨.other, 1, 8, .nilFunc⟩),
  (143, ⟨.struct [(0, 3), (1, 3), (2, 3), (3, 3)], 4, 32, .agg #[.int .i64 (0), .int .i64 (0), .int .i64 (0), .int .i64 (0)]⟩),
  (151, ⟨.other, 1, 8, .nilFunc⟩),
  (163, ⟨.other, 1, 8, .nilFunc⟩),
  (171, ⟨.struct [(0, 27)], 1, 24, .agg #[.slice none 0 0]⟩),
  (178, ⟨.slice 93, 1, 24, .slice none 0 0⟩),
  (180, ⟨.other, 1, 8, .nilFunc⟩),
  (220, ⟨.other, 1, 8, .nilFunc⟩),
  (222, ⟨.other, 1, 8, .nilFunc⟩),
  (276, ⟨.other, 1, 8, .nilFunc⟩),
  (292, ⟨.array 64 5, 64, 64, .agg #[.int .u8 (0), .int .u8 (0), .int .u8 (0), .int .u8 (0), .int .u8 (0), .int .u8 (0), .int .u8 (0), .int .u8 (0), .int .u8 (0), .int .u8 (0), .int .u8 (0), .int .u8 (0), .int .u8 (0), .int .u8 (0), .int .u8 (0), .int .u8 (0), .int .u8 (0), .int .u8 (0), .int .u8 (0), .int .u8 (0), .int .u8 (0), .int .u8 (0), .int .u8 (0), .int .u8 (0), .int .u8 (0), .int .u8 (0), .int .u8 (0), .int .u8 (0), .int .u8 (0), .int .u8 (0), .int .u8 (0), .int .u8 (0), .int .u8 (0), .int .u8 (0), .int .u8 (0), .int .u8 (0), .int .u8 (0), .int .u8 (0), .int .u8 (0), .int .u8 (0), .int .u8 (0), .int .u8 (0), .int .u8 (0), .int .u8 (0), .int .u8 (0), .int .u8 (0), .int .u8 (0), .int .u8 (0), .int .u8 (0), .int .u8 (0), .int .u8 (0), .int .u8 (0), .int .u8 (0), .int .u8 (0), .int .u8 (0), .int .u8 (0), .int .u8 (0), .int .u8 (0), .int .u8 (0), .int .u8 (0), .int .u8 (0), .int .u8 (0), .int .u8 (0), .int .u8 (0)]⟩),
  (78, ⟨.other, 1, 8, .nilFunc⟩),
  (79, ⟨.struct [(0, 25), (3, 27), (4, 3), (5, 3), (6, 3), (7, 50)], 13, 168, .agg #[.slice none 0 0, .int .i64 (0), .slice none 0 0, .slice none 0 0, .int .i64 (0), .int .i64 (0), .int .i64 (0), .int .i64 (0), .slice none 0 0, .int .i64 (0), .int .i64 (0), .int .i64 (0), .int .i64 (0)]⟩),
  (161, ⟨.other, 1, 8, .nilFunc⟩),
  (169, ⟨.other, 1, 8, .nilFunc⟩),
  (177, ⟨.other, 1, 8, .nilFunc⟩),
  (182, ⟨.other, 1, 8, .nilFunc⟩),
  (200, ⟨.other, 1, 8, .nilFunc⟩),
  (203, ⟨.other, 1, 8, .nilFunc⟩),
  (205, ⟨.struct [(0, 25), (3, 3), (4, 187), (5, 44)], 6, 112, .agg #[.slice none 0 0, .int .i64 (0), .slice none 0 0, .int .i64 (0), .slice none 0 0, .slice none 0 0]⟩),
  (219, ⟨.other, 1, 8, .nilFunc⟩),
  (221, ⟨.other, 1, 8, .nilFunc⟩),
  (224, ⟨.other, 1, 8, .nilFunc⟩),
  (227, ⟨.other, 1, 8, .nilFunc⟩),
  (229, ⟨.other, 1, 8, .nilFunc⟩),
  (238, ⟨.other, 1, 8, .nilFunc⟩),
  (246, ⟨.other, 1, 8, .nilFunc⟩),
  (266, ⟨.other, 1, 8, .nilFunc⟩),
  (272, ⟨.other, 1, 8, .nilFunc⟩),
  (273, ⟨.other, 1, 8, .nilFunc⟩),
  (280, ⟨.other, 1, 8, .nilFunc⟩),
  (285, ⟨.other, 1, 8, .nilFunc⟩),
  (300, ⟨.int .u8, 1, 1, .int .u8 (0)⟩),
  (306, ⟨.struct [(0, 12), (1, 12), (2, 260), (3, 299), (4, 5), (5, 5), (6, 300), (7, 301), (8, 302), (9, 303), (10, 304)], 11, 48, .agg #[.int .u64 (0), .int .u64 (0), .int .u32 (0), .int .u8 (0), .int .u8 (0), .int .u8 (0), .int .u8 (0), .nilFunc, .pointer none, .int .i32 (0), .int .i32 (0)]⟩),
  (74, ⟨.other, 1, 8, .nilFunc⟩),
  (83, ⟨.other, 1, 8, .nilFunc⟩),
  (101, ⟨.struct [(0, 96), (1, 3), (2, 100), (3, 99), (4, 27)], 5, 72, .agg #[.pointer none, .int .i64 (0), .slice none 0 0, .pointer none, .slice none 0 0]⟩),
  (131, ⟨.other, 1, 8, .nilFunc⟩),
  (149, ⟨.struct [(0, 4), (1, 3), (2, 3)], 3, 24, .agg #[.bool false, .int .i64 (0), .int .i64 (0)]⟩),
  (167, ⟨.other, 1, 8, .nilFunc⟩),
  (188, ⟨.array 16 26, 16, 384, .agg #[.slice none 0 0, .slice none 0 0, .slice none 0 0, .slice none 0 0, .slice none 0 0, .slice none 0 0, .slice none 0 0, .slice none 0 0, .slice none 0 0, .slice none 0 0, .slice none 0 0, .slice none 0 0, .slice none 0 0, .slice none 0 0, .slice none 0 0, .slice none 0 0]⟩),
  (196, ⟨.other, 1, 8, .nilFunc⟩),
  (218, ⟨.map 3 158, 1, 8, .map none⟩),
  (226, ⟨.other, 1, 8, .nilFunc⟩),
  (228, ⟨.other, 1, 8, .nilFunc⟩),
  (237, ⟨.other, 1, 8, .nilFunc⟩),
  (243, ⟨.other, 1, 8, .nilFunc⟩),
  (255, ⟨.other, 1, 8, .nilFunc⟩),
  (259, ⟨.other, 1, 8, .nilFunc⟩),
  (263, ⟨.other, 1, 8, .nilFunc⟩),
  (277, ⟨.array 24 5, 24, 24, .agg #[.int .u8 (0), .int .u8 (0), .int .u8 (0), .int .u8 (0), .int .u8 (0), .int .u8 (0), .int .u8 (0), .int .u8 (0), .int .u8 (0), .int .u8 (0), .int .u8 (0), .int .u8 (0), .int .u8 (0), .int .u8 (0), .int .u8 (0), .int .u8 (0), .int .u8 (0), .int .u8 (0), .int .u8 (0), .int .u8 (0), .int .u8 (0), .int .u8 (0), .int .u8 (0), .int .u8 (0)]⟩),
  (282, ⟨.other, 1, 8, .nilFunc⟩),
  (287, ⟨.other, 1, 8, .nilFunc⟩),
  (297, ⟨.struct [(0, 295)], 0, 0, .agg #[]⟩),
  (298, ⟨.other, 1, 8, .nilFunc⟩),
  (299, ⟨.int .u8, 1, 1, .int .u8 (0)⟩),
  (304, ⟨.int .i32, 1, 4, .int .i32 (0)⟩),
  (135, ⟨.struct [(0, 3), (1, 3), (2, 3), (3, 3), (4, 3), (5, 3), (6, 3), (7, 3)], 8, 64, .agg #[.int .i64 (0), .int .i64 (0), .int .i64 (0), .int .i64 (0), .int .i64 (0), .int .i64 (0), .int .i64 (0), .int .i64 (0)]⟩),
  (137, ⟨.struct [(0, 3), (1, 3)], 2, 16, .agg #[.int .i64 (0), .int .i64 (0)]⟩),
  (190, ⟨.struct [(0, 25), (3, 186), (4, 3), (5, 187), (6, 189)], 22, 480, .agg #[.slice none 0 0, .int .i64 (0), .slice none 0 0, .map none, .int .i64 (0), .slice none 0 0, .slice none 0 0, .slice none 0 0, .slice none 0 0, .slice none 0 0, .slice none 0 0, .slice none 0 0, .slice none 0 0, .slice none 0 0, .slice none 0 0, .slice none 0 0, .slice none 0 0, .slice none 0 0, .slice none 0 0, .slice none 0 0, .slice none 0 0, .slice none 0 0]⟩),
  (193, ⟨.struct [(0, 3), (1, 3)], 2, 16, .agg #[.int .i64 (0), .int .i64 (0)]⟩),
  (197, ⟨.struct [(0, 3), (1, 187), (2, 44)], 3, 56, .agg #[.int .i64 (0), .slice none 0 0, .slice none 0 0]⟩),
  (239, ⟨.other, 1, 8, .nilFunc⟩),
  (247, ⟨.struct [(0, 136), (8, 194), (10, 232)], 11, 88, .agg #[.int .i64 (0), .int .i64 (0), .int .i64 (0), .int .i64 (0), .int .i64 (0), .int .i64 (0), .int .i64 (0), .int .i64 (0), .int .i64 (0), .int .i64 (0), .nilFunc]⟩),
  (258, ⟨.other, 1, 8, .nilFunc⟩),
  (262, ⟨.other, 1, 8, .nilFunc⟩),
  (267, ⟨.other, 1, 8, .nilFunc⟩),
  (268, ⟨.other, 1, 8, .nilFunc⟩),
  (271, ⟨.other, 1, 8, .nilFunc⟩),
  (275, ⟨.other, 1, 8, .nilFunc⟩),
  (278, ⟨.other, 1, 8, .nilFunc⟩),
  (286, ⟨.other, 1, 8, .nilFunc⟩),
  (295, ⟨.array 0 16, 0, 0, .agg #[]⟩),
  (307, ⟨.other, 1, 8, .pointer none⟩),
  (233, ⟨.struct [(0, 3), (1, 232)], 2, 16, .agg #[.int .i64 (0), .nilFunc]⟩),
  (264, ⟨.other, 1, 8, .nilFunc⟩),
  (269, ⟨.other, 1, 8, .nilFunc⟩),
  (296, ⟨.struct [(0, 295)], 0, 0, .agg #[]⟩),
  (301, ⟨.other, 1, 8, .nilFunc⟩),
  (303, ⟨.int .i32, 1, 4, .int .i32 (0)⟩),
  (302, ⟨.pointer, 1, 8, .pointer none⟩),
  (305, ⟨.struct [(0, 12), (1, 12), (2, 260), (3, 299), (4, 5), (5, 5), (6, 300), (7, 301), (8, 302), (9, 303), (10, 304)], 11, 48, .agg #[.int .u64 (0), .int .u64 (0), .int .u32 (0), .int .u8 (0), .int .u8 (0), .int .u8 (0), .int .u8 (0), .nilFunc, .pointer none, .int .i32 (0), .int .i32 (0)]⟩)]

theorem Tryz.okLay : LayOk Tryz.prog Tryz.lay := (LayOk.app Tryz.okLay0 (LayOk.app Tryz.okLay1 (LayOk.app Tryz.okLay2 (LayOk.app Tryz.okLay3 (LayOk.app Tryz.okLay4 (LayOk.app Tryz.okLay5 (LayOk.app Tryz.okLay6 (LayOk.app Tryz.okLay7 (LayOk.app Tryz.okLay8 (LayOk.app Tryz.okLay9 (LayOk.app Tryz.okLay10 (LayOk.app Tryz.okLay11 (LayOk.app Tryz.okLay12 (LayOk.app Tryz.okLay13 (LayOk.app Tryz.okLay14 (LayOk.app Tryz.okLay15 (LayOk.app Tryz.okLay16 (LayOk.app Tryz.okLay17 (LayOk.app Tryz.okLay18 (LayOk.app Tryz.okLay19 (LayOk.app Tryz.okLay20 (LayOk.app Tryz.okLay21 (LayOk.app Tryz.okLay22 (LayOk.app Tryz.okLay23 (trivial : LayOk Tryz.prog [])))))))))))))))))))))))))

def Tryz.fns : List Nat := [2, 3, 4, 5, 6, 7, 8, 9, 10, 11, 12, 13, 14, 15, 16, 17, 18, 19, 20, 21, 22, 23, 24, 25, 26, 27, 28, 29, 30, 31, 32, 33, 34, 35, 36, 37, 38, 39, 40, 41, 42, 43, 44, 45, 46, 47, 48, 49, 50, 51, 52, 53, 54, 55, 56, 57, 58, 59, 60, 61, 62, 63, 64, 65, 66, 67, 68, 69, 70, 71, 72, 73, 74, 75, 76, 77, 78, 79, 80, 81, 82, 83, 84, 85, 86, 87, 88, 89, 90, 91, 92, 93, 94, 95, 96, 97, 98, 99, 100, 101, 102, 103, 104, 105, 106, 107, 108, 109, 110, 111, 112, 113, 114, 115, 116, 117, 118, 119, 120, 121, 122, 123, 124, 125, 126, 127, 128, 129, 130, 131, 132, 133, 134, 135, 136, 137, 138, 139, 140, 141, 142, 143, 144, 145, 146, 147, 148, 149, 150, 151, 152, 153, 154, 155, 156, 157, 158, 159, 160, 161, 162, 163, 164, 165, 166, 167, 168, 169, 170, 171, 172, 173, 174, 175, 176, 177, 178, 179, 180, 181, 182, 183, 184, 185, 186, 187, 188, 189, 190, 191, 192, 193, 194, 195, 196, 197, 198, 199, 200, 201, 202, 203, 204, 205, 206, 207, 208, 209, 210, 211, 212, 213, 214, 215, 216, 217, 218, 219, 220, 221, 222, 223, 224, 225, 226, 227, 228, 229, 230, 231, 232, 256]

theorem FnOk.cons {P : Program} {f : Nat} {l : List Nat} {fn : Func} (h1 : P.funcs[f]? = some fn) (h2 : fn.body.isNone = false) (h3 : (fn.name == "runtime.NumGoroutine") = false)
    (h : ∀ f ∈ l, ∃ fn, P.funcs[f]? = some fn ∧ fn.body.isNone = false ∧ (fn.name == "runtime.NumGoroutine") = false) : ∀ g ∈ f :: l, ∃ fn, P.funcs[g]? = some fn ∧ fn.body.isNone = false ∧ (fn.name == "runtime.NumGoroutine") = false := by
  intro g hg
  rcases List.mem_cons.1 hg with rfl | hg
  · exact ⟨fn, h1, h2, h3⟩
  · exact h g hg

theorem Tryz.okF11 : ∀ f ∈ ([222, 223, 224, 225, 226, 227, 228, 229, 230, 231, 232, 256] : List Nat), ∃ fn, Tryz.prog.funcs[f]? = some fn ∧ fn.body.isNone = false ∧ (fn.name == "runtime.NumGoroutine") = false :=
  (FnOk.cons Tryz.func222 rfl (by kernel_rfl) (FnOk.cons Tryz.func223 rfl (by kernel_rfl) (FnOk.cons Tryz.func224 rfl (by kernel_rfl) (FnOk.cons Tryz.func225 rfl (by kernel_rfl) (FnOk.cons Tryz.func226 rfl (by kernel_rfl) (FnOk.cons Tryz.func227 rfl (by kernel_rfl) (FnOk.cons Tryz.func228 rfl (by kernel_rfl) (FnOk.cons Tryz.func229 rfl (by kernel_rfl) (FnOk.cons Tryz.func230 rfl (by kernel_rfl) (FnOk.cons Tryz.func231 rfl (by kernel_rfl) (FnOk.cons Tryz.func232 rfl (by kernel_rfl) (FnOk.cons Tryz.func256 rfl (by kernel_rfl) (fun _ h => by cases h)))))))))))))

theorem Tryz.okF10 : ∀ f ∈ ([202, 203, 204, 205, 206, 207, 208, 209, 210, 211, 212, 213, 214, 215, 216, 217, 218, 219, 220, 221, 222, 223, 224, 225, 226, 227, 228, 229, 230, 231, 232, 256] : List Nat), ∃ fn, Tryz.prog.funcs[f]? = some fn ∧ fn.body.isNone = false ∧ (fn.name == "runtime.NumGoroutine") = false :=
  (FnOk.cons Tryz.func202 rfl (by kernel_rfl) (FnOk.cons Tryz.func203 rfl (by kernel_rfl) (FnOk.cons Tryz.func204 rfl (by kernel_rfl) (FnOk.cons Tryz.func205 rfl (by kernel_rfl) (FnOk.cons Tryz.func206 rfl (by kernel_rfl) (FnOk.cons Tryz.func207 rfl (by kernel_rfl) (FnOk.cons Tryz.func208 rfl (by kernel_rfl) (FnOk.cons Tryz.func209 rfl (by kernel_rfl) (FnOk.cons Tryz.func210 rfl (by kernel_rfl) (FnOk.cons Tryz.func211 rfl (by kernel_rfl) (FnOk.cons Tryz.func212 rfl (by kernel_rfl) (FnOk.cons Tryz.func213 rfl (by kernel_rfl) (FnOk.cons Tryz.func214 rfl (by kernel_rfl) (FnOk.cons Tryz.func215 rfl (by kernel_rfl) (FnOk.cons Tryz.func216 rfl (by kernel_rfl) (FnOk.cons Tryz.func217 rfl (by kernel_rfl) (FnOk.cons Tryz.func218 rfl (by kernel_rfl) (FnOk.cons Tryz.func219 rfl (by kernel_rfl) (FnOk.cons Tryz.func220 rfl (by kernel_rfl) (FnOk.cons Tryz.func221 rfl (by kernel_rfl) (Tryz.okF11)))))))))))))))))))))

theorem Tryz.okF9 : ∀ f ∈ ([182, 183, 184, 185, 186, 187, 188, 189, 190, 191, 192, 193, 194, 195, 196, 197, 198, 199, 200, 201, 202, 203, 204, 205, 206, 207, 208, 209, 210, 211, 212, 213, 214, 215, 216, 217, 218, 219, 220, 221, 222, 223, 224, 225, 226, 227, 228, 229, 230, 231, 232, 256] : List Nat), ∃ fn, Tryz.prog.funcs[f]? = some fn ∧ fn.body.isNone = false ∧ (fn.name == "runtime.NumGoroutine") = false :=
  (FnOk.cons Tryz.func182 rfl (by kernel_rfl) (FnOk.cons Tryz.func183 rfl (by kernel_rfl) (FnOk.cons Tryz.func184 rfl (by kernel_rfl) (FnOk.cons Tryz.func185 rfl (by kernel_rfl) (FnOk.cons Tryz.func186 rfl (by kernel_rfl) (FnOk.cons Tryz.func187 rfl (by kernel_rfl) (FnOk.cons Tryz.func188 rfl (by kernel_rfl) (FnOk.cons Tryz.func189 rfl (by kernel_rfl) (FnOk.cons Tryz.func190 rfl (by kernel_rfl) (FnOk.cons Tryz.func191 rfl (by kernel_rfl) (FnOk.cons Tryz.func192 rfl (by kernel_rfl) (FnOk.cons Tryz.func193 rfl (by kernel_rfl) (FnOk.cons Tryz.func194 rfl (by kernel_rfl) (FnOk.cons Tryz.func195 rfl (by kernel_rfl) (FnOk.cons Tryz.func196 rfl (by kernel_rfl) (FnOk.cons Tryz.func197 rfl (by kernel_rfl) (FnOk.cons Tryz.func198 rfl (by kernel_rfl) (FnOk.cons Tryz.func199 rfl (by kernel_rfl) (FnOk.cons Tryz.func200 rfl (by kernel_rfl) (FnOk.cons Tryz.func201 rfl (by kernel_rfl) (Tryz.okF10)))))))))))))))))))))

theorem Tryz.okF8 : ∀ f ∈ ([162, 163, 164, 165, 166, 167, 168, 169, 170, 171, 172, 173, 174, 175, 176, 177, 178, 179, 180, 181, 182, 183, 184, 185, 186, 187, 188, 189, 190, 191, 192, 193, 194, 195, 196, 197, 198, 199, 200, 201, 202, 203, 204, 205, 206, 207, 208, 209, 210, 211, 212, 213, 214, 215, 216, 217, 218, 219, 220, 221, 222, 223, 224, 225, 226, 227, 228, 229, 230, 231, 232, 256] : List Nat), ∃ fn, Tryz.prog.funcs[f]? = some fn ∧ fn.body.isNone = false ∧ (fn.name == "runtime.NumGoroutine") = false :=
  (FnOk.cons Tryz.func162 rfl (by kernel_rfl) (FnOk.cons Tryz.func163 rfl (by kernel_rfl) (FnOk.cons Tryz.func164 rfl (by kernel_rfl) (FnOk.cons Tryz.func165 rfl (by kernel_rfl) (FnOk.cons Tryz.func166 rfl (by kernel_rfl) (FnOk.cons Tryz.func167 rfl (by kernel_rfl) (FnOk.cons Tryz.func168 rfl (by kernel_rfl) (FnOk.cons Tryz.func169 rfl (by kernel_rfl) (FnOk.cons Tryz.func170 rfl (by kernel_rfl) (FnOk.cons Tryz.func171 rfl (by kernel_rfl) (FnOk.cons Tryz.func172 rfl (by kernel_rfl) (FnOk.cons Tryz.func173 rfl (by kernel_rfl) (FnOk.cons Tryz.func174 rfl (by kernel_rfl) (FnOk.cons Tryz.func175 rfl (by kernel_rfl) (FnOk.cons Tryz.func176 rfl (by kernel_rfl) (FnOk.cons Tryz.func177 rfl (by kernel_rfl) (FnOk.cons Tryz.func178 rfl (by kernel_rfl) (FnOk.cons Tryz.func179 rfl (by kernel_rfl) (FnOk.cons Tryz.func180 rfl (by kernel_rfl) (FnOk.cons Tryz.func181 rfl (by kernel_rfl) (Tryz.okF9)))))))))))))))))))))

theorem Tryz.okF7 : ∀ f ∈ ([142, 143, 144, 145, 146, 147, 148, 149, 150, 151, 152, 153, 154, 155, 156, 157, 158, 159, 160, 161, 162, 163, 164, 165, 166, 167, 168, 169, 170, 171, 172, 173, 174, 175, 176, 177, 178, 179, 180, 181, 182, 183, 184, 185, 186, 187, 188, 189, 190, 191, 192, 193, 194, 195, 196, 197, 198, 199, 200, 201, 202, 203, 204, 205, 206, 207, 208, 209, 210, 211, 212, 213, 214, 215, 216, 217, 218, 219, 220, 221, 222, 223, 224, 225, 226, 227, 228, 229, 230, 231, 232, 256] : List Nat), ∃ fn, Tryz.prog.funcs[f]? = some fn ∧ fn.body.isNone = false ∧ (fn.name == "runtime.NumGoroutine") = false :=
  (FnOk.cons Tryz.func142 rfl (by kernel_rfl) (FnOk.cons Tryz.func143 rfl (by kernel_rfl) (FnOk.cons Tryz.func144 rfl (by kernel_rfl) (FnOk.cons Tryz.func145 rfl (by kernel_rfl) (FnOk.cons Tryz.func146 rfl (by kernel_rfl) (FnOk.cons Tryz.func147 rfl (by kernel_rfl) (FnOk.cons Tryz.func148 rfl (by kernel_rfl) (FnOk.cons Tryz.func149 rfl (by kernel_rfl) (FnOk.cons Tryz.func150 rfl (by kernel_rfl) (FnOk.cons Tryz.func151 rfl (by kernel_rfl) (FnOk.cons Tryz.func152 rfl (by kernel_rfl) (FnOk.cons Tryz.func153 rfl (by kernel_rfl) (FnOk.cons Tryz.func154 rfl (by kernel_rfl) (FnOk.cons Tryz.func155 rfl (by kernel_rfl) (FnOk.cons Tryz.func156 rfl (by kernel_rfl) (FnOk.cons Tryz.func157 rfl (by kernel_rfl) (FnOk.cons Tryz.func158 rfl (by kernel_rfl) (FnOk.cons Tryz.func159 rfl (by kernel_rfl) (FnOk.cons Tryz.func160 rfl (by kernel_rfl) (FnOk.cons Tryz.func161 rfl (by kernel_rfl) (Tryz.okF8)))))))))))))))))))))

theorem Tryz.okF6 : ∀ f ∈ ([122, 123, 124, 125, 126, 127, 128, 129, 130, 131, 132, 133, 134, 135, 136, 137, 138, 139, 140, 141, 142, 143, 144, 145, 146, 147, 148, 149, 150, 151, 152, 153, 154, 155, 156, 157, 158, 159, 160, 161, 162, 163, 164, 165, 166, 167, 168, 169, 170, 171, 172, 173, 174, 175, 176, 177, 178, 179, 180, 181, 182, 183, 184, 185, 186, 187, 188, 189, 190, 191, 192, 193, 194, 195, 196, 197, 198, 199, 200, 201, 202, 203, 204, 205, 206, 207, 208, 209, 210, 211, 212, 213, 214, 215, 216, 217, 218, 219, 220, 221, 222, 223, 224, 225, 226, 227, 228, 229, 230, 231, 232, 256] : List Nat), ∃ fn, Tryz.prog.funcs[f]? = some fn ∧ fn.body.isNone = false ∧ (fn.name == "runtime.NumGoroutine") = false :=
  (FnOk.cons Tryz.func122 rfl (by kernel_rfl) (FnOk.cons Tryz.func123 rfl (by kernel_rfl) (FnOk.cons Tryz.func124 rfl (by kernel_rfl) (FnOk.cons Tryz.func125 rfl (by kernel_rfl) (FnOk.cons Tryz.func126 rfl (by kernel_rfl) (FnOk.cons Tryz.func127 rfl (by kernel_rfl) (FnOk.cons Tryz.func128 rfl (by kernel_rfl) (FnOk.cons Tryz.func129 rfl (by kernel_rfl) (FnOk.cons Tryz.func130 rfl (by kernel_rfl) (FnOk.cons Tryz.func131 rfl (by kernel_rfl) (FnOk.cons Tryz.func132 rfl (by kernel_rfl) (FnOk.cons Tryz.func133 rfl (by kernel_rfl) (FnOk.cons Tryz.func134 rfl (by kernel_rfl) (FnOk.cons Tryz.func135 rfl (by kernel_rfl) (FnOk.cons Tryz.func136 rfl (by kernel_rfl) (FnOk.cons Tryz.func137 rfl (by kernel_rfl) (FnOk.cons Tryz.func138 rfl (by kernel_rfl) (FnOk.cons Tryz.func139 rfl (by kernel_rfl) (FnOk.cons Tryz.func140 rfl (by kernel_rfl) (FnOk.cons Tryz.func141 rfl (by kernel_rfl) (Tryz.okF7)))))))))))))))))))))

theorem Tryz.okF5 : ∀ f ∈ ([102, 103, 104, 105, 106, 107, 108, 109, 110, 111, 112, 113, 114, 115, 116, 117, 118, 119, 120, 121, 122, 123, 124, 125, 126, 127, 128, 129, 130, 131, 132, 133, 134, 135, 136, 137, 138, 139, 140, 141, 142, 143, 144, 145, 146, 147, 148, 149, 150, 151, 152, 153, 154, 155, 156, 157, 158, 159, 160, 161, 162, 163, 164, 165, 166, 167, 168, 169, 170, 171, 172, 173, 174, 175, 176, 177, 178, 179, 180, 181, 182, 183, 184, 185, 186, 187, 188, 189, 190, 191, 192, 193, 194, 195, 196, 197, 198, 199, 200, 201, 202, 203, 204, 205, 206, 207, 208, 209, 210, 211, 212, 213, 214, 215, 216, 217, 218, 219, 220, 221, 222, 223, 224, 225, 226, 227, 228, 229, 230, 231, 232, 256] : List Nat), ∃ fn, Tryz.prog.funcs[f]? = some fn ∧ fn.body.isNone = false ∧ (fn.name == "runtime.NumGoroutine") = false :=
  (FnOk.cons Tryz.func102 rfl (by kernel_rfl) (FnOk.cons Tryz.func103 rfl (by kernel_rfl) (FnOk.cons Tryz.func104 rfl (by kernel_rfl) (FnOk.cons Tryz.func105 rfl (by kernel_rfl) (FnOk.cons Tryz.func106 rfl (by kernel_rfl) (FnOk.cons Tryz.func107 rfl (by kernel_rfl) (FnOk.cons Tryz.func108 rfl (by kernel_rfl) (FnOk.cons Tryz.func109 rfl (by kernel_rfl) (FnOk.cons Tryz.func110 rfl (by kernel_rfl) (FnOk.cons Tryz.func111 rfl (by kernel_rfl) (FnOk.cons Tryz.func112 rfl (by kernel_rfl) (FnOk.cons Tryz.func113 rfl (by kernel_rfl) (FnOk.cons Tryz.func114 rfl (by kernel_rfl) (FnOk.cons Tryz.func115 rfl (by kernel_rfl) (FnOk.cons Tryz.func116 rfl (by kernel_rfl) (FnOk.cons Tryz.func117 rfl (by kernel_rfl) (FnOk.cons Tryz.func118 rfl (by kernel_rfl) (FnOk.cons Tryz.func119 rfl (by kernel_rfl) (FnOk.cons Tryz.func120 rfl (by kernel_rfl) (FnOk.cons Tryz.func121 rfl (by kernel_rfl) (Tryz.okF6)))))))))))))))))))))

theorem Tryz.okF4 : ∀ f ∈ ([82, 83, 84, 85, 86, 87, 88, 89, 90, 91, 92, 93, 94, 95, 96, 97, 98, 99, 100, 101, 102, 103, 104, 105, 106, 107, 108, 109, 110, 111, 112, 113, 114, 115, 116, 117, 118, 119, 120, 121, 122, 123, 124, 125, 126, 127, 128, 129, 130, 131, 132, 133, 134, 135, 136, 137, 138, 139, 140, 141, 142, 143, 144, 145, 146, 147, 148, 149, 150, 151, 152, 153, 154, 155, 156, 157, 158, 159, 160, 161, 162, 163, 164, 165, 166, 167, 168, 169, 170, 171, 172, 173, 174, 175, 176, 177, 178, 179, 180, 181, 182, 183, 184, 185, 186, 187, 188, 189, 190, 191, 192, 193, 194, 195, 196, 197, 198, 199, 200, 201, 202, 203, 204, 205, 206, 207, 208, 209, 210, 211, 212, 213, 214, 215, 216, 217, 218, 219, 220, 221, 222, 223, 224, 225, 226, 227, 228, 229, 230, 231, 232, 256] : List Nat), ∃ fn, Tryz.prog.funcs[f]? = some fn ∧ fn.body.isNone = false ∧ (fn.name == "runtime.NumGoroutine") = false :=
  (FnOk.cons Tryz.func82 rfl (by kernel_rfl) (FnOk.cons Tryz.func83 rfl (by kernel_rfl) (FnOk.cons Tryz.func84 rfl (by kernel_rfl) (FnOk.cons Tryz.func85 rfl (by kernel_rfl) (FnOk.cons Tryz.func86 rfl (by kernel_rfl) (FnOk.cons Tryz.func87 rfl (by kernel_rfl) (FnOk.cons Tryz.func88 rfl (by kernel_rfl) (FnOk.cons Tryz.func89 rfl (by kernel_rfl) (FnOk.cons Tryz.func90 rfl (by kernel_rfl) (FnOk.cons Tryz.func91 rfl (by kernel_rfl) (FnOk.cons Tryz.func92 rfl (by kernel_rfl) (FnOk.cons Tryz.func93 rfl (by kernel_rfl) (FnOk.cons Tryz.func94 rfl (by kernel_rfl) (FnOk.cons Tryz.func95 rfl (by kernel_rfl) (FnOk.cons Tryz.func96 rfl (by kernel_rfl) (FnOk.cons Tryz.func97 rfl (by kernel_rfl) (FnOk.cons Tryz.func98 rfl (by kernel_rfl) (FnOk.cons Tryz.func99 rfl (by kernel_rfl) (FnOk.cons Tryz.func100 rfl (by kernel_rfl) (FnOk.cons Tryz.func101 rfl (by kernel_rfl) (Tryz.okF5)))))))))))))))))))))

theorem Tryz.okF3 : ∀ f ∈ ([62, 63, 64, 65, 66, 67, 68, 69, 70, 71, 72, 73, 74, 75, 76, 77, 78, 79, 80, 81, 82, 83, 84, 85, 86, 87, 88, 89, 90, 91, 92, 93, 94, 95, 96, 97, 98, 99, 100, 101, 102, 103, 104, 105, 106, 107, 108, 109, 110, 111, 112, 113, 114, 115, 116, 117, 118, 119, 120, 121, 122, 123, 124, 125, 126, 127, 128, 129, 130, 131, 132, 133, 134, 135, 136, 137, 138, 139, 140, 141, 142, 143, 144, 145, 146, 147, 148, 149, 150, 151, 152, 153, 154, 155, 156, 157, 158, 159, 160, 161, 162, 163, 164, 165, 166, 167, 168, 169, 170, 171, 172, 173, 174, 175, 176, 177, 178, 179, 180, 181, 182, 183, 184, 185, 186, 187, 188, 189, 190, 191, 192, 193, 194, 195, 196, 197, 198, 199, 200, 201, 202, 203, 204, 205, 206, 207, 208, 209, 210, 211, 212, 213, 214, 215, 216, 217, 218, 219, 220, 221, 222, 223, 224, 225, 226, 227, 228, 229, 230, 231, 232, 256] : List Nat), ∃ fn, Tryz.prog.funcs[f]? = some fn ∧ fn.body.isNone = false ∧ (fn.name == "runtime.NumGoroutine") = false :=
  (FnOk.cons Tryz.func62 rfl (by kernel_rfl) (FnOk.cons Tryz.func63 rfl (by kernel_rfl) (FnOk.cons Tryz.func64 rfl (by kernel_rfl) (FnOk.cons Tryz.func65 rfl (by kernel_rfl) (FnOk.cons Tryz.func66 rfl (by kernel_rfl) (FnOk.cons Tryz.func67 rfl (by kernel_rfl) (FnOk.cons Tryz.func68 rfl (by kernel_rfl) (FnOk.cons Tryz.func69 rfl (by kernel_rfl) (FnOk.cons Tryz.func70 rfl (by kernel_rfl) (FnOk.cons Tryz.func71 rfl (by kernel_rfl) (FnOk.cons Tryz.func72 rfl (by kernel_rfl) (FnOk.cons Tryz.func73 rfl (by kernel_rfl) (FnOk.cons Tryz.func74 rfl (by kernel_rfl) (FnOk.cons Tryz.func75 rfl (by kernel_rfl) (FnOk.cons Tryz.func76 rfl (by kernel_rfl) (FnOk.cons Tryz.func77 rfl (by kernel_rfl) (FnOk.cons Tryz.func78 rfl (by kernel_rfl) (FnOk.cons Tryz.func79 rfl (by kernel_rfl) (FnOk.cons Tryz.func80 rfl (by kernel_rfl) (FnOk.cons Tryz.func81 rfl (by kernel_rfl) (Tryz.okF4)))))))))))))))))))))

theorem Tryz.okF2 : ∀ f ∈ ([42, 43, 44, 45, 46, 47, 48, 49, 50, 51, 52, 53, 54, 55, 56, 57, 58, 59, 60, 61, 62, 63, 64, 65, 66, 67, 68, 69, 70, 71, 72, 73, 74, 75, 76, 77, 78, 79, 80, 81, 82, 83, 84, 85, 86, 87, 88, 89, 90, 91, 92, 93, 94, 95, 96, 97, 98, 99, 100, 101, 102, 103, 104, 105, 106, 107, 108, 109, 110, 111, 112, 113, 114, 115, 116, 117, 118, 119, 120, 121, 122, 123, 124, 125, 126, 127, 128, 129, 130, 131, 132, 133, 134, 135, 136, 137, 138, 139, 140, 141, 142, 143, 144, 145, 146, 147, 148, 149, 150, 151, 152, 153, 154, 155, 156, 157, 158, 159, 160, 161, 162, 163, 164, 165, 166, 167, 168, 169, 170, 171, 172, 173, 174, 175, 176, 177, 178, 179, 180, 181, 182, 183, 184, 185, 186, 187, 188, 189, 190, 191, 192, 193, 194, 195, 196, 197, 198, 199, 200, 201, 202, 203, 204, 205, 206, 207, 208, 209, 210, 211, 212, 213, 214, 215, 216, 217, 218, 219, 220, 221, 222, 223, 224, 225, 226, 227, 228, 229, 230, 231, 232, 256] : List Nat), ∃ fn, Tryz.prog.funcs[f]? = some fn ∧ fn.body.isNone = false ∧ (fn.name == "runtime.NumGoroutine") = false :=
  (FnOk.cons Tryz.func42 rfl (by kernel_rfl) (FnOk.cons Tryz.func43 rfl (by kernel_rfl) (FnOk.cons Tryz.func44 rfl (by kernel_rfl) (FnOk.cons Tryz.func45 rfl (by kernel_rfl) (FnOk.cons Tryz.func46 rfl (by kernel_rfl) (FnOk.cons Tryz.func47 rfl (by kernel_rfl) (FnOk.cons Tryz.func48 rfl (by kernel_rfl) (FnOk.cons Tryz.func49 rfl (by kernel_rfl) (FnOk.cons Tryz.func50 rfl (by kernel_rfl) (FnOk.cons Tryz.func51 rfl (by kernel_rfl) (FnOk.cons Tryz.func52 rfl (by kernel_rfl) (FnOk.cons Tryz.func53 rfl (by kernel_rfl) (FnOk.cons Tryz.func54 rfl (by kernel_rfl) (FnOk.cons Tryz.func55 rfl (by kernel_rfl) (FnOk.cons Tryz.func56 rfl (by kernel_rfl) (FnOk.cons Tryz.func57 rfl (by kernel_rfl) (FnOk.cons Tryz.func58 rfl (by kernel_rfl) (FnOk.cons Tryz.func59 rfl (by kernel_rfl) (FnOk.cons Tryz.func60 rfl (by kernel_rfl) (FnOk.cons Tryz.func61 rfl (by kernel_rfl) (Tryz.okF3)))))))))))))))))))))

theorem Tryz.okF1 : ∀ f ∈ ([22, 23, 24, 25, 26, 27, 28, 29, 30, 31, 32, 33, 34, 35, 36, 37, 38, 39, 40, 41, 42, 43, 44, 45, 46, 47, 48, 49, 50, 51, 52, 53, 54, 55, 56, 57, 58, 59, 60, 61, 62, 63, 64, 65, 66, 67, 68, 69, 70, 71, 72, 73, 74, 75, 76, 77, 78, 79, 80, 81, 82, 83, 84, 85, 86, 87, 88, 89, 90, 91, 92, 93, 94, 95, 96, 97, 98, 99, 100, 101, 102, 103, 104, 105, 106, 107, 108, 109, 110, 111, 112, 113, 114, 115, 116, 117, 118, 119, 120, 121, 122, 123, 124, 125, 126, 127, 128, 129, 130, 131, 132, 133, 134, 135, 136, 137, 138, 139, 140, 141, 142, 143, 144, 145, 146, 147, 148, 149, 150, 151, 152, 153, 154, 155, 156, 157, 158, 159, 160, 161, 162, 163, 164, 165, 166, 167, 168, 169, 170, 171, 172, 173, 174, 175, 176, 177, 178, 179, 180, 181, 182, 183, 184, 185, 186, 187, 188, 189, 190, 191, 192, 193, 194, 195, 196, 197, 198, 199, 200, 201, 202, 203, 204, 205, 206, 207, 208, 209, 210, 211, 212, 213, 214, 215, 216, 217, 218, 219, 220, 221, 222, 223, 224, 225, 226, 227, 228, 229, 230, 231, 232, 256] : List Nat), ∃ fn, Tryz.prog.funcs[f]? = some fn ∧ fn.body.isNone = false ∧ (fn.name == "runtime.NumGoroutine") = false :=
  (FnOk.cons Tryz.func22 rfl (by kernel_rfl) (FnOk.cons Tryz.func23 rfl (by kernel_rfl) (FnOk.cons Tryz.func24 rfl (by kernel_rfl) (FnOk.cons Tryz.func25 rfl (by kernel_rfl) (FnOk.cons Tryz.func26 rfl (by kernel_rfl) (FnOk.cons Tryz.func27 rfl (by kernel_rfl) (FnOk.cons Tryz.func28 rfl (by kernel_rfl) (FnOk.cons Tryz.func29 rfl (by kernel_rfl) (FnOk.cons Tryz.func30 rfl (by kernel_rfl) (FnOk.cons Tryz.func31 rfl (by kernel_rfl) (FnOk.cons Tryz.func32 rfl (by kernel_rfl) (FnOk.cons Tryz.func33 rfl (by kernel_rfl) (FnOk.cons Tryz.func34 rfl (by kernel_rfl) (FnOk.cons Tryz.func35 rfl (by kernel_rfl) (FnOk.cons Tryz.func36 rfl (by kernel_rfl) (FnOk.cons Tryz.func37 rfl (by kernel_rfl) (FnOk.cons Tryz.func38 rfl (by kernel_rfl) (FnOk.cons Tryz.func39 rfl (by kernel_rfl) (FnOk.cons Tryz.func40 rfl (by kernel_rfl) (FnOk.cons Tryz.func41 rfl (by kernel_rfl) (Tryz.okF2)))))))))))))))))))))

theorem Tryz.okF0 : ∀ f ∈ ([2, 3, 4, 5, 6, 7, 8, 9, 10, 11, 12, 13, 14, 15, 16, 17, 18, 19, 20, 21, 22, 23, 24, 25, 26, 27, 28, 29, 30, 31, 32, 33, 34, 35, 36, 37, 38, 39, 40, 41, 42, 43, 44, 45, 46, 47, 48, 49, 50, 51, 52, 53, 54, 55, 56, 57, 58, 59, 60, 61, 62, 63, 64, 65, 66, 67, 68, 69, 70, 71, 72, 73, 74, 75, 76, 77, 78, 79, 80, 81, 82, 83, 84, 85, 86, 87, 88, 89, 90, 91, 92, 93, 94, 95, 96, 97, 98, 99, 100, 101, 102, 103, 104, 105, 106, 107, 108, 109, 110, 111, 112, 113, 114, 115, 116, 117, 118, 119, 120, 121, 122, 123, 124, 125, 126, 127, 128, 129, 130, 131, 132, 133, 134, 135, 136, 137, 138, 139, 140, 141, 142, 143, 144, 145, 146, 147, 148, 149, 150, 151, 152, 153, 154, 155, 156, 157, 158, 159, 160, 161, 162, 163, 164, 165, 166, 167, 168, 169, 170, 171, 172, 173, 174, 175, 176, 177, 178, 179, 180, 181, 182, 183, 184, 185, 186, 187, 188, 189, 190, 191, 192, 193, 194, 195, 196, 197, 198, 199, 200, 201, 202, 203, 204, 205, 206, 207, 208, 209, 210, 211, 212, 213, 214, 215, 216, 217, 218, 219, 220, 221, 222, 223, 224, 225, 226, 227, 228, 229, 230, 231, 232, 256] : List Nat), ∃ fn, Tryz.prog.funcs[f]? = some fn ∧ fn.body.isNone = false ∧ (fn.name == "runtime.NumGoroutine") = false :=
  (FnOk.cons Tryz.func2 rfl (by kernel_rfl) (FnOk.cons Tryz.func3 rfl (by kernel_rfl) (FnOk.cons Tryz.func4 rfl (by kernel_rfl) (FnOk.cons Tryz.func5 rfl (by kernel_rfl) (FnOk.cons Tryz.func6 rfl (by kernel_rfl) (FnOk.cons Tryz.func7 rfl (by kernel_rfl) (FnOk.cons Tryz.func8 rfl (by kernel_rfl) (FnOk.cons Tryz.func9 rfl (by kernel_rfl) (FnOk.cons Tryz.func10 rfl (by kernel_rfl) (FnOk.cons Tryz.func11 rfl (by kernel_rfl) (FnOk.cons Tryz.func12 rfl (by kernel_rfl) (FnOk.cons Tryz.func13 rfl (by kernel_rfl) (FnOk.cons Tryz.func14 rfl (by kernel_rfl) (FnOk.cons Tryz.func15 rfl (by kernel_rfl) (FnOk.cons Tryz.func16 rfl (by kernel_rfl) (FnOk.cons Tryz.func17 rfl (by kernel_rfl) (FnOk.cons Tryz.func18 rfl (by kernel_rfl) (FnOk.cons Tryz.func19 rfl (by kernel_rfl) (FnOk.cons Tryz.func20 rfl (by kernel_rfl) (FnOk.cons Tryz.func21 rfl (by kernel_rfl) (Tryz.okF1)))))))))))))))))))))

def Tryz.eqs : List Nat := [64, 136, 138, 144, 194]

theorem Tryz.okE : ∀ t ∈ Tryz.eqs, eqTy Tryz.prog t = true := by
  intro t ht
  simp only [Tryz.eqs, List.mem_cons, List.not_mem_nil, or_false] at ht
  rcases ht with rfl | rfl | rfl | rfl | rfl <;> kernel_rfl

noncomputable def Tryz.cx : Cx := { P := Tryz.prog, L := Tryz.lay, fns := Tryz.fns, eqs := Tryz.eqs, okL := Tryz.okLay, okF := Tryz.okF0, okE := Tryz.okE, mixed := by kernel_rfl }

end Go.Proofs
