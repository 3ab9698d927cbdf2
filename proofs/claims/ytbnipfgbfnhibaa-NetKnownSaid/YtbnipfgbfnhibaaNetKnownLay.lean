/- What is known of the program's types and functions: printed by wip/gen/lay.py. -/

import Derived.Test.YtbnipfgbfnhibaaProg
import Derived.Test.YtbnipfgbfnhibaaNetKnownVb
import Derived.KernelRfl

namespace Go.Proofs

open Go Go.Vx

def Try.lay0 : Lay := [(1, ⟨.other, 1, 8, .nilFunc⟩),
  (3, ⟨.int .i64, 1, 8, .int .i64 (0)⟩),
  (4, ⟨.bool, 1, 1, .bool false⟩),
  (2, ⟨.int .i64, 1, 8, .int .i64 (0)⟩),
  (8, ⟨.struct [(0, 2), (1, 3), (2, 4), (3, 6)], 4, 24, .agg #[.int .i64 (0), .int .i64 (0), .bool false, .int .u8 (0)]⟩),
  (28, ⟨.int .i64, 1, 8, .int .i64 (0)⟩),
  (25, ⟨.struct [(0, 22), (1, 3), (2, 23)], 3, 56, .agg #[.slice none 0 0, .int .i64 (0), .slice none 0 0]⟩),
  (46, ⟨.slice 3, 1, 24, .slice none 0 0⟩),
  (30, ⟨.slice 44, 1, 24, .slice none 0 0⟩),
  (5, ⟨.int .u8, 1, 1, .int .u8 (0)⟩),
  (6, ⟨.int .u8, 1, 1, .int .u8 (0)⟩),
  (7, ⟨.struct [(0, 2), (1, 3), (2, 4), (3, 6)], 4, 24, .agg #[.int .i64 (0), .int .i64 (0), .bool false, .int .u8 (0)]⟩)]

theorem Try.okLay0 : LayOk Try.prog Try.lay0 := ⟨⟨by kernel_rfl, by kernel_rfl⟩, ⟨by kernel_rfl, by kernel_rfl⟩, ⟨by kernel_rfl, by kernel_rfl⟩, ⟨by kernel_rfl, by kernel_rfl⟩, ⟨by kernel_rfl, by kernel_rfl⟩, ⟨by kernel_rfl, by kernel_rfl⟩, ⟨by kernel_rfl, by kernel_rfl⟩, ⟨by kernel_rfl, by kernel_rfl⟩, ⟨by kernel_rfl, by kernel_rfl⟩, ⟨by kernel_rfl, by kernel_rfl⟩, ⟨by kernel_rfl, by kernel_rfl⟩, ⟨by kernel_rfl, by kernel_rfl⟩, trivial⟩

def Try.lay1 : Lay := [(42, ⟨.struct [(0, 3), (1, 3), (2, 3), (3, 3), (4, 3), (5, 3), (6, 3), (7, 3)], 8, 64, .agg #[.int .i64 (0), .int .i64 (0), .int .i64 (0), .int .i64 (0), .int .i64 (0), .int .i64 (0), .int .i64 (0), .int .i64 (0)]⟩),
  (96, ⟨.struct [(0, 3), (1, 3), (2, 3), (3, 3)], 4, 32, .agg #[.int .i64 (0), .int .i64 (0), .int .i64 (0), .int .i64 (0)]⟩),
  (44, ⟨.struct [(0, 3), (1, 3)], 2, 16, .agg #[.int .i64 (0), .int .i64 (0)]⟩),
  (67, ⟨.pointer, 1, 8, .pointer none⟩),
  (22, ⟨.slice 42, 1, 24, .slice none 0 0⟩),
  (98, ⟨.struct [(0, 3), (1, 3)], 2, 16, .agg #[.int .i64 (0), .int .i64 (0)]⟩),
  (23, ⟨.slice 96, 1, 24, .slice none 0 0⟩),
  (66, ⟨.struct [(0, 3), (1, 63), (2, 64)], 3, 56, .agg #[.int .i64 (0), .slice none 0 0, .slice none 0 0]⟩),
  (70, ⟨.pointer, 1, 8, .pointer none⟩),
  (12, ⟨.int .u64, 1, 8, .int .u64 (0)⟩),
  (64, ⟨.slice 46, 1, 24, .slice none 0 0⟩),
  (129, ⟨.struct [(0, 3), (1, 3)], 2, 16, .agg #[.int .i64 (0), .int .i64 (0)]⟩)]

theorem Try.okLay1 : LayOk Try.prog Try.lay1 := ⟨⟨by kernel_rfl, by kernel_rfl⟩, ⟨by kernel_rfl, by kernel_rfl⟩, ⟨by kernel_rfl, by kernel_rfl⟩, ⟨by kernel_rfl, by kernel_rfl⟩, ⟨by kernel_rfl, by kernel_rfl⟩, ⟨by kernel_rfl, by kernel_rfl⟩, ⟨by kernel_rfl, by kernel_rfl⟩, ⟨by kernel_rfl, by kernel_rfl⟩, ⟨by kernel_rfl, by kernel_rfl⟩, ⟨by kernel_rfl, by kernel_rfl⟩, ⟨by kernel_rfl, by kernel_rfl⟩, ⟨by kernel_rfl, by kernel_rfl⟩, trivial⟩

def Try.lay2 : Lay := [(53, ⟨.slice 4, 1, 24, .slice none 0 0⟩),
  (63, ⟨.slice 98, 1, 24, .slice none 0 0⟩),
  (16, ⟨.pointer, 1, 8, .pointer none⟩),
  (27, ⟨.other, 1, 8, .nilFunc⟩),
  (73, ⟨.struct [(0, 3), (1, 63), (2, 64)], 3, 56, .agg #[.int .i64 (0), .slice none 0 0, .slice none 0 0]⟩),
  (125, ⟨.struct [(0, 122), (1, 123)], 2, 32, .agg #[.slice none 0 0, .nilFunc]⟩),
  (18, ⟨.struct [(0, 17)], 1, 8, .agg #[.pointer none]⟩),
  (24, ⟨.struct [(0, 22), (1, 3), (2, 23)], 3, 56, .agg #[.slice none 0 0, .int .i64 (0), .slice none 0 0]⟩),
  (92, ⟨.struct [(0, 25), (3, 3), (4, 63), (5, 64)], 6, 112, .agg #[.slice none 0 0, .int .i64 (0), .slice none 0 0, .int .i64 (0), .slice none 0 0, .slice none 0 0]⟩),
  (131, ⟨.struct [(0, 42), (8, 98), (10, 3), (11, 3)], 12, 96, .agg #[.int .i64 (0), .int .i64 (0), .int .i64 (0), .int .i64 (0), .int .i64 (0), .int .i64 (0), .int .i64 (0), .int .i64 (0), .int .i64 (0), .int .i64 (0), .int .i64 (0), .int .i64 (0)]⟩),
  (185, ⟨.pointer, 1, 8, .pointer none⟩),
  (108, ⟨.other, 1, 8, .nilFunc⟩)]

theorem Try.okLay2 : LayOk Try.prog Try.lay2 := ⟨⟨by kernel_rfl, by kernel_rfl⟩, ⟨by kernel_rfl, by kernel_rfl⟩, ⟨by kernel_rfl, by kernel_rfl⟩, ⟨by kernel_rfl, by kernel_rfl⟩, ⟨by kernel_rfl, by kernel_rfl⟩, ⟨by kernel_rfl, by kernel_rfl⟩, ⟨by kernel_rfl, by kernel_rfl⟩, ⟨by kernel_rfl, by kernel_rfl⟩, ⟨by kernel_rfl, by kernel_rfl⟩, ⟨by kernel_rfl, by kernel_rfl⟩, ⟨by kernel_rfl, by kernel_rfl⟩, ⟨by kernel_rfl, by kernel_rfl⟩, trivial⟩

def Try.lay3 : Lay := [(127, ⟨.struct [(0, 121), (1, 100), (2, 120), (3, 125)], 5, 72, .agg #[.slice none 0 0, .map none, .map none, .slice none 0 0, .nilFunc]⟩),
  (15, ⟨.pointer, 1, 8, .pointer none⟩),
  (104, ⟨.struct [(0, 25), (3, 100), (4, 3), (5, 63), (6, 102)], 22, 480, .agg #[.slice none 0 0, .int .i64 (0), .slice none 0 0, .map none, .int .i64 (0), .slice none 0 0, .slice none 0 0, .slice none 0 0, .slice none 0 0, .slice none 0 0, .slice none 0 0, .slice none 0 0, .slice none 0 0, .slice none 0 0, .slice none 0 0, .slice none 0 0, .slice none 0 0, .slice none 0 0, .slice none 0 0, .slice none 0 0, .slice none 0 0, .slice none 0 0]⟩),
  (118, ⟨.pointer, 1, 8, .pointer none⟩),
  (168, ⟨.pointer, 1, 8, .pointer none⟩),
  (122, ⟨.slice 129, 1, 24, .slice none 0 0⟩),
  (17, ⟨.pointer, 1, 8, .pointer none⟩),
  (100, ⟨.map 3 23, 1, 8, .map none⟩),
  (141, ⟨.other, 1, 8, .nilFunc⟩),
  (171, ⟨.pointer, 1, 8, .pointer none⟩),
  (51, ⟨.other, 1, 8, .nilFunc⟩),
  (176, ⟨.int .u64, 1, 8, .int .u64 (0)⟩)]

theorem Try.okLay3 : LayOk Try.prog Try.lay3 := ⟨⟨by kernel_rfl, by kernel_rfl⟩, ⟨by kernel_rfl, by kernel_rfl⟩, ⟨by kernel_rfl, by kernel_rfl⟩, ⟨by kernel_rfl, by kernel_rfl⟩, ⟨by kernel_rfl, by kernel_rfl⟩, ⟨by kernel_rfl, by kernel_rfl⟩, ⟨by kernel_rfl, by kernel_rfl⟩, ⟨by kernel_rfl, by kernel_rfl⟩, ⟨by kernel_rfl, by kernel_rfl⟩, ⟨by kernel_rfl, by kernel_rfl⟩, ⟨by kernel_rfl, by kernel_rfl⟩, ⟨by kernel_rfl, by kernel_rfl⟩, trivial⟩

def Try.lay4 : Lay := [(29, ⟨.other, 1, 8, .nilFunc⟩),
  (33, ⟨.other, 1, 8, .nilFunc⟩),
  (142, ⟨.map 3 4, 1, 8, .map none⟩),
  (40, ⟨.other, 1, 8, .nilFunc⟩),
  (34, ⟨.other, 1, 8, .nilFunc⟩),
  (38, ⟨.int .u32, 1, 4, .int .u32 (0)⟩),
  (189, ⟨.struct [(0, 42), (8, 98), (10, 155)], 11, 88, .agg #[.int .i64 (0), .int .i64 (0), .int .i64 (0), .int .i64 (0), .int .i64 (0), .int .i64 (0), .int .i64 (0), .int .i64 (0), .int .i64 (0), .int .i64 (0), .nilFunc]⟩),
  (55, ⟨.other, 1, 8, .nilFunc⟩),
  (111, ⟨.pointer, 1, 8, .pointer none⟩),
  (56, ⟨.int .u16, 1, 2, .int .u16 (0)⟩),
  (138, ⟨.pointer, 1, 8, .pointer none⟩),
  (157, ⟨.struct [(0, 3), (1, 155)], 2, 16, .agg #[.int .i64 (0), .nilFunc]⟩)]

theorem Try.okLay4 : LayOk Try.prog Try.lay4 := ⟨⟨by kernel_rfl, by kernel_rfl⟩, ⟨by kernel_rfl, by kernel_rfl⟩, ⟨by kernel_rfl, by kernel_rfl⟩, ⟨by kernel_rfl, by kernel_rfl⟩, ⟨by kernel_rfl, by kernel_rfl⟩, ⟨by kernel_rfl, by kernel_rfl⟩, ⟨by kernel_rfl, by kernel_rfl⟩, ⟨by kernel_rfl, by kernel_rfl⟩, ⟨by kernel_rfl, by kernel_rfl⟩, ⟨by kernel_rfl, by kernel_rfl⟩, ⟨by kernel_rfl, by kernel_rfl⟩, ⟨by kernel_rfl, by kernel_rfl⟩, trivial⟩

def Try.lay5 : Lay := [(20, ⟨.other, 1, 16, .nilIface⟩),
  (94, ⟨.other, 1, 8, .nilFunc⟩),
  (203, ⟨.int .u64, 1, 8, .int .u64 (0)⟩),
  (19, ⟨.struct [(0, 17)], 1, 8, .agg #[.pointer none]⟩),
  (75, ⟨.other, 1, 8, .nilFunc⟩),
  (198, ⟨.other, 1, 8, .nilFunc⟩),
  (217, ⟨.other, 1, 8, .nilFunc⟩),
  (26, ⟨.other, 1, 8, .nilFunc⟩),
  (207, ⟨.int .u64, 1, 8, .int .u64 (0)⟩),
  (211, ⟨.pointer, 1, 8, .pointer none⟩),
  (114, ⟨.other, 1, 8, .nilFunc⟩),
  (115, ⟨.other, 1, 8, .nilFunc⟩)]

theorem Try.okLay5 : LayOk Try.prog Try.lay5 := ⟨⟨by kernel_rfl, by kernel_rfl⟩, ⟨by kernel_rfl, by kernel_rfl⟩, ⟨by kernel_rfl, by kernel_rfl⟩, ⟨by kernel_rfl, by kernel_rfl⟩, ⟨by kernel_rfl, by kernel_rfl⟩, ⟨by kernel_rfl, by kernel_rfl⟩, ⟨by kernel_rfl, by kernel_rfl⟩, ⟨by kernel_rfl, by kernel_rfl⟩, ⟨by kernel_rfl, by kernel_rfl⟩, ⟨by kernel_rfl, by kernel_rfl⟩, ⟨by kernel_rfl, by kernel_rfl⟩, ⟨by kernel_rfl, by kernel_rfl⟩, trivial⟩

def Try.lay6 : Lay := [(155, ⟨.other, 1, 8, .nilFunc⟩),
  (194, ⟨.int .i64, 1, 8, .int .i64 (0)⟩),
  (87, ⟨.struct [(0, 5), (1, 46)], 2, 32, .agg #[.int .u8 (0), .slice none 0 0]⟩),
  (143, ⟨.other, 1, 8, .nilFunc⟩),
  (148, ⟨.other, 1, 8, .nilFunc⟩),
  (48, ⟨.other, 1, 8, .nilFunc⟩),
  (88, ⟨.other, 1, 8, .nilFunc⟩),
  (113, ⟨.struct [(0, 30)], 1, 24, .agg #[.slice none 0 0]⟩),
  (120, ⟨.map 3 173, 1, 8, .map none⟩),
  (50, ⟨.other, 1, 8, .nilFunc⟩),
  (60, ⟨.other, 1, 8, .nilFunc⟩),
  (77, ⟨.other, 1, 8, .nilFunc⟩)]

theorem Try.okLay6 : LayOk Try.prog Try.lay6 := ⟨⟨by kernel_rfl, by kernel_rfl⟩, ⟨by kernel_rfl, by kernel_rfl⟩, ⟨by kernel_rfl, by kernel_rfl⟩, ⟨by kernel_rfl, by kernel_rfl⟩, ⟨by kernel_rfl, by kernel_rfl⟩, ⟨by kernel_rfl, by kernel_rfl⟩, ⟨by kernel_rfl, by kernel_rfl⟩, ⟨by kernel_rfl, by kernel_rfl⟩, ⟨by kernel_rfl, by kernel_rfl⟩, ⟨by kernel_rfl, by kernel_rfl⟩, ⟨by kernel_rfl, by kernel_rfl⟩, ⟨by kernel_rfl, by kernel_rfl⟩, trivial⟩

def Try.lay7 : Lay := [(95, ⟨.struct [(0, 3), (1, 3), (2, 3), (3, 3)], 4, 32, .agg #[.int .i64 (0), .int .i64 (0), .int .i64 (0), .int .i64 (0)]⟩),
  (85, ⟨.slice 87, 1, 24, .slice none 0 0⟩),
  (89, ⟨.other, 1, 8, .nilFunc⟩),
  (90, ⟨.other, 1, 8, .nilFunc⟩),
  (106, ⟨.other, 1, 8, .nilFunc⟩),
  (116, ⟨.other, 1, 8, .nilFunc⟩),
  (123, ⟨.other, 1, 8, .nilFunc⟩),
  (151, ⟨.other, 1, 8, .nilFunc⟩),
  (173, ⟨.map 3 3, 1, 8, .map none⟩),
  (174, ⟨.other, 1, 8, .nilFunc⟩),
  (205, ⟨.other, 1, 8, .nilFunc⟩),
  (21, ⟨.int .i32, 1, 4, .int .i32 (0)⟩)]

theorem Try.okLay7 : LayOk Try.prog Try.lay7 := ⟨⟨by kernel_rfl, by kernel_rfl⟩, ⟨by kernel_rfl, by kernel_rfl⟩, ⟨by kernel_rfl, by kernel_rfl⟩, ⟨by kernel_rfl, by kernel_rfl⟩, ⟨by kernel_rfl, by kernel_rfl⟩, ⟨by kernel_rfl, by kernel_rfl⟩, ⟨by kernel_rfl, by kernel_rfl⟩, ⟨by kernel_rfl, by kernel_rfl⟩, ⟨by kernel_rfl, by kernel_rfl⟩, ⟨by kernel_rfl, by kernel_rfl⟩, ⟨by kernel_rfl, by kernel_rfl⟩, ⟨by kernel_rfl, by kernel_rfl⟩, trivial⟩

def Try.lay8 : Lay := [(105, ⟨.other, 1, 8, .nilFunc⟩),
  (132, ⟨.other, 1, 8, .nilFunc⟩),
  (134, ⟨.other, 1, 8, .nilFunc⟩),
  (214, ⟨.pointer, 1, 8, .pointer none⟩),
  (65, ⟨.struct [(0, 3), (1, 63), (2, 64)], 3, 56, .agg #[.int .i64 (0), .slice none 0 0, .slice none 0 0]⟩),
  (69, ⟨.other, 1, 8, .nilFunc⟩),
  (72, ⟨.other, 1, 8, .nilFunc⟩),
  (80, ⟨.other, 1, 8, .nilFunc⟩),
  (81, ⟨.other, 1, 8, .nilFunc⟩),
  (86, ⟨.struct [(0, 5), (1, 46)], 2, 32, .agg #[.int .u8 (0), .slice none 0 0]⟩),
  (102, ⟨.array 16 46, 16, 384, .agg #[.slice none 0 0, .slice none 0 0, .slice none 0 0, .slice none 0 0, .slice none 0 0, .slice none 0 0, .slice none 0 0, .slice none 0 0, .slice none 0 0, .slice none 0 0, .slice none 0 0, .slice none 0 0, .slice none 0 0, .slice none 0 0, .slice none 0 0, .slice none 0 0]⟩),
  (107, ⟨.other, 1, 8, .nilFunc⟩)]

theorem Try.okLay8 : LayOk Try.prog Try.lay8 := ⟨⟨by kernel_rfl, by kernel_rfl⟩, ⟨by kernel_rfl, by kernel_rfl⟩, ⟨by kernel_rfl, by kernel_rfl⟩, ⟨by kernel_rfl, by kernel_rfl⟩, ⟨by kernel_rfl, by kernel_rfl⟩, ⟨by kernel_rfl, by kernel_rfl⟩, ⟨by kernel_rfl, by kernel_rfl⟩, ⟨by kernel_rfl, by kernel_rfl⟩, ⟨by kernel_rfl, by kernel_rfl⟩, ⟨by kernel_rfl, by kernel_rfl⟩, ⟨by kernel_rfl, by kernel_rfl⟩, ⟨by kernel_rfl, by kernel_rfl⟩, trivial⟩

def Try.lay9 : Lay := [(124, ⟨.struct [(0, 122), (1, 123)], 2, 32, .agg #[.slice none 0 0, .nilFunc]⟩),
  (193, ⟨.other, 1, 8, .nilFunc⟩),
  (209, ⟨.other, 1, 8, .nilFunc⟩),
  (43, ⟨.struct [(0, 3), (1, 3)], 2, 16, .agg #[.int .i64 (0), .int .i64 (0)]⟩),
  (59, ⟨.other, 1, 8, .nilFunc⟩),
  (78, ⟨.other, 1, 8, .nilFunc⟩),
  (83, ⟨.other, 1, 8, .nilFunc⟩),
  (109, ⟨.other, 1, 8, .nilFunc⟩),
  (112, ⟨.struct [(0, 30)], 1, 24, .agg #[.slice none 0 0]⟩),
  (121, ⟨.slice 131, 1, 24, .slice none 0 0⟩),
  (139, ⟨.other, 1, 8, .nilFunc⟩),
  (153, ⟨.other, 1, 8, .nilFunc⟩)]

theorem Try.okLay9 : LayOk Try.prog Try.lay9 := ⟨⟨by kernel_rfl, by kernel_rfl⟩, ⟨by kernel_rfl, by kernel_rfl⟩, ⟨by kernel_rfl, by kernel_rfl⟩, ⟨by kernel_rfl, by kernel_rfl⟩, ⟨by kernel_rfl, by kernel_rfl⟩, ⟨by kernel_rfl, by kernel_rfl⟩, ⟨by kernel_rfl, by kernel_rfl⟩, ⟨by kernel_rfl, by kernel_rfl⟩, ⟨by kernel_rfl, by kernel_rfl⟩, ⟨by kernel_rfl, by kernel_rfl⟩, ⟨by kernel_rfl, by kernel_rfl⟩, ⟨by kernel_rfl, by kernel_rfl⟩, trivial⟩

def Try.lay10 : Lay := [(159, ⟨.other, 1, 8, .nilFunc⟩),
  (204, ⟨.other, 1, 8, .nilFunc⟩),
  (210, ⟨.other, 1, 8, .nilFunc⟩),
  (216, ⟨.other, 1, 8, .nilFunc⟩),
  (31, ⟨.other, 1, 8, .nilFunc⟩),
  (45, ⟨.other, 1, 8, .nilFunc⟩),
  (52, ⟨.other, 1, 8, .nilFunc⟩),
  (58, ⟨.other, 1, 8, .nilFunc⟩),
  (82, ⟨.other, 1, 8, .nilFunc⟩),
  (97, ⟨.struct [(0, 3), (1, 3)], 2, 16, .agg #[.int .i64 (0), .int .i64 (0)]⟩),
  (99, ⟨.map 3 23, 1, 8, .map none⟩),
  (110, ⟨.other, 1, 8, .nilFunc⟩)]

theorem Try.okLay10 : LayOk Try.prog Try.lay10 := ⟨⟨by kernel_rfl, by kernel_rfl⟩, ⟨by kernel_rfl, by kernel_rfl⟩, ⟨by kernel_rfl, by kernel_rfl⟩, ⟨by kernel_rfl, by kernel_rfl⟩, ⟨by kernel_rfl, by kernel_rfl⟩, ⟨by kernel_rfl, by kernel_rfl⟩, ⟨by kernel_rfl, by kernel_rfl⟩, ⟨by kernel_rfl, by kernel_rfl⟩, ⟨by kernel_rfl, by kernel_rfl⟩, ⟨by kernel_rfl, by kernel_rfl⟩, ⟨by kernel_rfl, by kernel_rfl⟩, ⟨by kernel_rfl, by kernel_rfl⟩, trivial⟩

def Try.lay11 : Lay := [(119, ⟨.other, 1, 8, .nilFunc⟩),
  (135, ⟨.other, 1, 8, .nilFunc⟩),
  (140, ⟨.other, 1, 8, .nilFunc⟩),
  (149, ⟨.other, 1, 8, .nilFunc⟩),
  (152, ⟨.other, 1, 8, .nilFunc⟩),
  (163, ⟨.other, 1, 8, .nilFunc⟩),
  (183, ⟨.other, 1, 8, .nilFunc⟩),
  (187, ⟨.other, 1, 8, .nilFunc⟩),
  (196, ⟨.other, 1, 8, .nilFunc⟩),
  (222, ⟨.struct [(0, 220)], 0, 0, .agg #[]⟩),
  (35, ⟨.other, 1, 8, .nilFunc⟩),
  (37, ⟨.other, 1, 8, .nilFunc⟩)]

theorem Try.okLay11 : LayOk Try.prog Try.lay11 := ⟨⟨by kernel_rfl, by kernel_rfl⟩, ⟨by kernel_rfl, by kernel_rfl⟩, ⟨by kernel_rfl, by kernel_rfl⟩, ⟨by kernel_rfl, by kernel_rfl⟩, ⟨by kernel_rfl, by kernel_rfl⟩, ⟨by kernel_rfl, by kernel_rfl⟩, ⟨by kernel_rfl, by kernel_rfl⟩, ⟨by kernel_rfl, by kernel_rfl⟩, ⟨by kernel_rfl, by kernel_rfl⟩, ⟨by kernel_rfl, by kernel_rfl⟩, ⟨by kernel_rfl, by kernel_rfl⟩, ⟨by kernel_rfl, by kernel_rfl⟩, trivial⟩

def Try.lay12 : Lay := [(41, ⟨.struct [(0, 3), (1, 3), (2, 3), (3, 3), (4, 3), (5, 3), (6, 3), (7, 3)], 8, 64, .agg #[.int .i64 (0), .int .i64 (0), .int .i64 (0), .int .i64 (0), .int .i64 (0), .int .i64 (0), .int .i64 (0), .int .i64 (0)]⟩),
  (57, ⟨.other, 1, 8, .nilFunc⟩),
  (61, ⟨.other, 1, 8, .nilFunc⟩),
  (62, ⟨.other, 1, 8, .nilFunc⟩),
  (103, ⟨.struct [(0, 25), (3, 100), (4, 3), (5, 63), (6, 102)], 22, 480, .agg #[.slice none 0 0, .int .i64 (0), .slice none 0 0, .map none, .int .i64 (0), .slice none 0 0, .slice none 0 0, .slice none 0 0, .slice none 0 0, .slice none 0 0, .slice none 0 0, .slice none 0 0, .slice none 0 0, .slice none 0 0, .slice none 0 0, .slice none 0 0, .slice none 0 0, .slice none 0 0, .slice none 0 0, .slice none 0 0, .slice none 0 0, .slice none 0 0]⟩),
  (117, ⟨.other, 1, 8, .nilFunc⟩),
  (126, ⟨.struct [(0, 121), (1, 100), (2, 120), (3, 125)], 5, 72, .agg #[.slice none 0 0, .map none, .map none, .slice none 0 0, .nilFunc]⟩),
  (133, ⟨.other, 1, 8, .nilFunc⟩),
  (136, ⟨.other, 1, 8, .nilFunc⟩),
  (144, ⟨.slice 25, 1, 24, .slice none 0 0⟩),
  (164, ⟨.other, 1, 8, .nilFunc⟩),
  (165, ⟨.other, 1, 8, .nilFunc⟩)]

theorem Try.okLay12 : LayOk Try.prog Try.lay12 := ⟨⟨by kernel_rfl, by kernel_rfl⟩, ⟨by kernel_rfl, by kernel_rfl⟩, ⟨by kernel_rfl, by kernel_rfl⟩, ⟨by kernel_rfl, by kernel_rfl⟩, ⟨by kernel_rfl, by kernel_rfl⟩, ⟨by kernel_rfl, by kernel_rfl⟩, ⟨by kernel_rfl, by kernel_rfl⟩, ⟨by kernel_rfl, by kernel_rfl⟩, ⟨by kernel_rfl, by kernel_rfl⟩, ⟨by kernel_rfl, by kernel_rfl⟩, ⟨by kernel_rfl, by kernel_rfl⟩, ⟨by kernel_rfl, by kernel_rfl⟩, trivial⟩

def Try.lay13 : Lay := [(178, ⟨.other, 1, 8, .nilFunc⟩),
  (181, ⟨.slice 23, 1, 24, .slice none 0 0⟩),
  (190, ⟨.other, 1, 8, .nilFunc⟩),
  (192, ⟨.other, 1, 8, .nilFunc⟩),
  (213, ⟨.other, 1, 8, .nilFunc⟩),
  (221, ⟨.struct [(0, 220)], 0, 0, .agg #[]⟩),
  (227, ⟨.int .i32, 1, 4, .int .i32 (0)⟩),
  (230, ⟨.struct [(0, 12), (1, 12), (2, 38), (3, 223), (4, 5), (5, 5), (6, 224), (7, 225), (8, 226), (9, 227), (10, 228)], 11, 48, .agg #[.int .u64 (0), .int .u64 (0), .int .u32 (0), .int .u8 (0), .int .u8 (0), .int .u8 (0), .int .u8 (0), .nilFunc, .pointer none, .int .i32 (0), .int .i32 (0)]⟩),
  (49, ⟨.other, 1, 8, .nilFunc⟩),
  (79, ⟨.other, 1, 8, .nilFunc⟩),
  (91, ⟨.struct [(0, 25), (3, 3), (4, 63), (5, 64)], 6, 112, .agg #[.slice none 0 0, .int .i64 (0), .slice none 0 0, .int .i64 (0), .slice none 0 0, .slice none 0 0]⟩),
  (130, ⟨.struct [(0, 42), (8, 98), (10, 3), (11, 3)], 12, 96, .agg #[.int .i64 (0), .int .i64 (0), .int .i64 (0), .int .i64 (0), .int .i64 (0), .int .i64 (0), .int .i64 (0), .int .i64 (0), .int .i64 (0), .int .i64 (0), .int .i64 (0), .int .i64 (0)]⟩)]

theorem Try.okLay13 : LayOk Try.prog Try.lay13 := ⟨⟨by kernel_rfl, by kernel_rfl⟩, ⟨by kernel_rfl, by kernel_rfl⟩, ⟨by kernel_rfl, by kernel_rfl⟩, ⟨by kernel_rfl, by kernel_rfl⟩, ⟨by kernel_rfl, by kernel_rfl⟩, ⟨by kernel_rfl, by kernel_rfl⟩, ⟨by kernel_rfl, by kernel_rfl⟩, ⟨by kernel_rfl, by kernel_rfl⟩, ⟨by kernel_rfl, by kernel_rfl⟩, ⟨by kernel_rfl, by kernel_rfl⟩, ⟨by kernel_rfl, by kernel_rfl⟩, ⟨by kernel_rfl, by kernel_rfl⟩, trivial⟩

def Try.lay14 : Lay := [(137, ⟨.other, 1, 8, .nilFunc⟩),
  (162, ⟨.other, 1, 8, .nilFunc⟩),
  (167, ⟨.other, 1, 8, .nilFunc⟩),
  (179, ⟨.slice 22, 1, 24, .slice none 0 0⟩),
  (180, ⟨.other, 1, 8, .nilFunc⟩),
  (197, ⟨.other, 1, 8, .nilFunc⟩),
  (200, ⟨.other, 1, 8, .nilFunc⟩),
  (201, ⟨.other, 1, 8, .nilFunc⟩),
  (206, ⟨.other, 1, 8, .nilFunc⟩),
  (208, ⟨.other, 1, 8, .nilFunc⟩),
  (212, ⟨.other, 1, 8, .nilFunc⟩),
  (226, ⟨.pointer, 1, 8, .pointer none⟩)]

theorem Try.okLay14 : LayOk Try.prog Try.lay14 := ⟨⟨by kernel_rfl, by kernel_rfl⟩, ⟨by kernel_rfl, by kernel_rfl⟩, ⟨by kernel_rfl, by kernel_rfl⟩, ⟨by kernel_rfl, by kernel_rfl⟩, ⟨by kernel_rfl, by kernel_rfl⟩, ⟨by kernel_rfl, by kernel_rfl⟩, ⟨by kernel_rfl, by kernel_rfl⟩, ⟨by kernel_rfl, by kernel_rfl⟩, ⟨by kernel_rfl, by kernel_rfl⟩, ⟨by kernel_rfl, by kernel_rfl⟩, ⟨by kernel_rfl, by kernel_rfl⟩, ⟨by kernel_rfl, by kernel_rfl⟩, trivial⟩

def Try.lay15 : Lay := [(231, ⟨.other, 1, 8, .pointer none⟩),
  (84, ⟨.other, 1, 8, .nilFunc⟩),
  (93, ⟨.other, 1, 8, .nilFunc⟩),
  (101, ⟨.array 16 46, 16, 384, .agg #[.slice none 0 0, .slice none 0 0, .slice none 0 0, .slice none 0 0, .slice none 0 0, .slice none 0 0, .slice none 0 0, .slice none 0 0, .slice none 0 0, .slice none 0 0, .slice none 0 0, .slice none 0 0, .slice none 0 0, .slice none 0 0, .slice none 0 0, .slice none 0 0]⟩),
  (145, ⟨.other, 1, 8, .nilFunc⟩),
  (146, ⟨.other, 1, 8, .nilFunc⟩),
  (147, ⟨.other, 1, 8, .nilFunc⟩),
  (150, ⟨.other, 1, 8, .nilFunc⟩),
  (154, ⟨.other, 1, 8, .nilFunc⟩),
  (156, ⟨.struct [(0, 3), (1, 155)], 2, 16, .agg #[.int .i64 (0), .nilFunc]⟩),
  (170, ⟨.other, 1, 8, .nilFunc⟩),
  (175, ⟨.other, 1, 8, .nilFunc⟩)]

theorem Try.okLay15 : LayOk Try.prog Try.lay15 := ⟨⟨by kernel_rfl, by kernel_rfl⟩, ⟨by kernel_rfl, by kernel_rfl⟩, ⟨by kernel_rfl, by kernel_rfl⟩, ⟨by kernel_rfl, by kernel_rfl⟩, ⟨by kernel_rfl, by kernel_rfl⟩, ⟨by kernel_rfl, by kernel_rfl⟩, ⟨by kernel_rfl, by kernel_rfl⟩, ⟨by kernel_rfl, by kernel_rfl⟩, ⟨by kernel_rfl, by kernel_rfl⟩, ⟨by kernel_rfl, by kernel_rfl⟩, ⟨by kernel_rfl, by kernel_rfl⟩, ⟨by kernel_rfl, by kernel_rfl⟩, trivial⟩

def Try.lay16 : Lay := [(177, ⟨.other, 1, 8, .nilFunc⟩),
  (182, ⟨.other, 1, 8, .nilFunc⟩),
  (184, ⟨.other, 1, 8, .nilFunc⟩),
  (188, ⟨.struct [(0, 42), (8, 98), (10, 155)], 11, 88, .agg #[.int .i64 (0), .int .i64 (0), .int .i64 (0), .int .i64 (0), .int .i64 (0), .int .i64 (0), .int .i64 (0), .int .i64 (0), .int .i64 (0), .int .i64 (0), .nilFunc]⟩),
  (223, ⟨.int .u8, 1, 1, .int .u8 (0)⟩),
  (224, ⟨.int .u8, 1, 1, .int .u8 (0)⟩),
  (228, ⟨.int .i32, 1, 4, .int .i32 (0)⟩),
  (229, ⟨.struct [(0, 12), (1, 12), (2, 38), (3, 223), (4, 5), (5, 5), (6, 224), (7, 225), (8, 226), (9, 227), (10, 228)], 11, 48, .agg #[.int .u64 (0), .int .u64 (0), .int .u32 (0), .int .u8 (0), .int .u8 (0), .int .u8 (0), .int .u8 (0), .nilFunc, .pointer none, .int .i32 (0), .int .i32 (0)]⟩),
  (128, ⟨.struct [(0, 3), (1, 3)], 2, 16, .agg #[.int .i64 (0), .int .i64 (0)]⟩),
  (160, ⟨.other, 1, 8, .nilFunc⟩),
  (199, ⟨.other, 1, 8, .nilFunc⟩),
  (202, ⟨.other, 1, 8, .nilFunc⟩)]

theorem Try.okLay16 : LayOk Try.prog Try.lay16 := ⟨⟨by kernel_rfl, by kernel_rfl⟩, ⟨by kernel_rfl, by kernel_rfl⟩, ⟨by kernel_rfl, by kernel_rfl⟩, ⟨by kernel_rfl, by kernel_rfl⟩, ⟨by kernel_rfl, by kernel_rfl⟩, ⟨by kernel_rfl, by kernel_rfl⟩, ⟨by kernel_rfl, by kernel_rfl⟩, ⟨by kernel_rfl, by kernel_rfl⟩, ⟨by kernel_rfl, by kernel_rfl⟩, ⟨by kernel_rfl, by kernel_rfl⟩, ⟨by kernel_rfl, by kernel_rfl⟩, ⟨by kernel_rfl, by kernel_rfl⟩, trivial⟩

def Try.lay17 : Lay := [(220, ⟨.array 0 16, 0, 0, .agg #[]⟩),
  (225, ⟨.other, 1, 8, .nilFunc⟩)]

theorem Try.okLay17 : LayOk Try.prog Try.lay17 := ⟨⟨by kernel_rfl, by kernel_rfl⟩, ⟨by kernel_rfl, by kernel_rfl⟩, trivial⟩

theorem LayOk.app {P : Program} : ∀ {A B : Lay}, LayOk P A → LayOk P B → LayOk P (A ++ B)
  | [], _, _, h => h
  | _ :: _, _, ⟨h1, h2⟩, h => ⟨h1, LayOk.app h2 h⟩

def Try.lay : Lay := [(1, ⟨.other, 1, 8, .nilFunc⟩),
  (3, ⟨.int .i64, 1, 8, .int .i64 (0)⟩),
  (4, ⟨.bool, 1, 1, .bool false⟩),
  (2, ⟨.int .i64, 1, 8, .int .i64 (0)⟩),
  (8, ⟨.struct [(0, 2), (1, 3), (2, 4), (3, 6)], 4, 24, .agg #[.int .i64 (0), .int .i64 (0), .bool false, .int .u8 (0)]⟩),
  (28, ⟨.int .i64, 1, 8, .int .i64 (0)⟩),
  (25, ⟨.struct [(0, 22), (1, 3), (2, 23)], 3, 56, .agg #[.slice none 0 0, .int .i64 (0), .slice none 0 0]⟩),
  (46, ⟨.slice 3, 1, 24, .slice none 0 0⟩),
  (30, ⟨.slice 44, 1, 24, .slice none 0 0⟩),
  (5, ⟨.int .u8, 1, 1, .int .u8 (0)⟩),
  (6, ⟨.int .u8, 1, 1, .int .u8 (0)⟩),
  (7, ⟨.struct [(0, 2), (1, 3), (2, 4), (3, 6)], 4, 24, .agg #[.int .i64 (0), .int .i64 (0), .bool false, .int .u8 (0)]⟩),
  (42, ⟨.struct [(0, 3), (1, 3), (2, 3), (3, 3), (4, 3), (5, 3), (6, 3), (7, 3)], 8, 64, .agg #[.int .i64 (0), .int .i64 (0), .int .i64 (0), .int .i64 (0), .int .i64 (0), .int .i64 (0), .int .i64 (0), .int .i64 (0)]⟩),
  (96, ⟨.struct [(0, 3), (1, 3), (2, 3), (3, 3)], 4, 32, .agg #[.int .i64 (0), .int .i64 (0), .int .i64 (0), .int .i64 (0)]⟩),
  (44, ⟨.struct [(0, 3), (1, 3)], 2, 16, .agg #[.int .i64 (0), .int .i64 (0)]⟩),
  (67, ⟨.pointer, 1, 8, .pointer none⟩),
  (22, ⟨.slice 42, 1, 24, .slice none 0 0⟩),
  (98, ⟨.struct [(0, 3), (1, 3)], 2, 16, .agg #[.int .i64 (0), .int .i64 (0)]⟩),
  (23, ⟨.slice 96, 1, 24, .slice none 0 0⟩),
  (66, ⟨.struct [(0, 3), (1, 63), (2, 64)], 3, 56, .agg #[.int .i64 (0), .slice none 0 0, .slice none 0 0]⟩),
  (70, ⟨.pointer, 1, 8, .pointer none⟩),
  (12, ⟨.int .u64, 1, 8, .int .u64 (0)⟩),
  (64, ⟨.slice 46, 1, 24, .slice none 0 0⟩),
  (129, ⟨.struct [(0, 3), (1, 3)], 2, 16, .agg #[.int .i64 (0), .int .i64 (0)]⟩),
  (53, ⟨.slice 4, 1, 24, .slice none 0 0⟩),
  (63, ⟨.slice 98, 1, 24, .slice none 0 0⟩),
  (16, ⟨.pointer, 1, 8, .pointer none⟩),
  (27, ⟨.other, 1, 8, .nilFunc⟩),
  (73, ⟨.struct [(0, 3), (1, 63), (2, 64)], 3, 56, .agg #[.int .i64 (0), .slice none 0 0, .slice none 0 0]⟩),
  (125, ⟨.struct [(0, 122), (1, 123)], 2, 32, .agg #[.slice none 0 0, .nilFunc]⟩),
  (18, ⟨.struct [(0, 17)], 1, 8, .agg #[.pointer none]⟩),
  (24, ⟨.struct [(0, 22), (1, 3), (2, 23)], 3, 56, .agg #[.slice none 0 0, .int .i64 (0), .slice none 0 0]⟩),
  (92, ⟨.struct [(0, 25), (3, 3), (4, 63), (5, 64)], 6, 112, .agg #[.slice none 0 0, .int .i64 (0), .slice none 0 0, .int .i64 (0), .slice none 0 0, .slice none 0 0]⟩),
  (131, ⟨.struct [(0, 42), (8, 98), (10, 3), (11, 3)], 12, 96, .agg #[.int .i64 (0), .int .i64 (0), .int .i64 (0), .int .i64 (0), .int .i64 (0), .int .i64 (0), .int .i64 (0), .int .i64 (0), .int .i64 (0), .int .i64 (0), .int .i64 (0), .int .i64 (0)]⟩),
  (185, ⟨.pointer, 1, 8, .pointer none⟩),
  (108, ⟨.other, 1, 8, .nilFunc⟩),
  (127, ⟨.struct [(0, 121), (1, 100), (2, 120), (3, 125)], 5, 72, .agg #[.slice none 0 0, .map none, .map none, .slice none 0 0, .nilFunc]⟩),
  (15, ⟨.pointer, 1, 8, .pointer none⟩),
  (104, ⟨.struct [(0, 25), (3, 100), (4, 3), (5, 63), (6, 102)], 22, 480, .agg #[.slice none 0 0, .int .i64 (0), .slice none 0 0, .map none, .int .i64 (0), .slice none 0 0, .slice none 0 0, .slice none 0 0, .slice none 0 0, .slice none 0 0, .slice none 0 0, .slice none 0 0, .slice none 0 0, .slice none 0 0, .slice none 0 0, .slice none 0 0, .slice none 0 0, .slice none 0 0, .slice none 0 0, .slice none 0 0, .slice none 0 0, .slice none 0 0]⟩),
  (118, ⟨.pointer, 1, 8, .pointer none⟩),
  (168, ⟨.pointer, 1, 8, .pointer none⟩),
  (122, ⟨.slice 129, 1, 24, .slice none 0 0⟩),
  (17, ⟨.pointer, 1, 8, .pointer none⟩),
  (100, ⟨.map 3 23, 1, 8, .map none⟩),
  (141, ⟨.other, 1, 8, .nilFunc⟩),
  (171, ⟨.pointer, 1, 8, .pointer none⟩),
  (51, ⟨.other, 1, 8, .nilFunc⟩),
  (176, ⟨.int .u64, 1, 8, .int .u64 (0)⟩),
  (29, ⟨.other, 1, 8, .nilFunc⟩),
  (33, ⟨.other, 1, 8, .nilFunc⟩),
  (142, ⟨.map 3 4, 1, 8, .map none⟩),
  (40, ⟨.other, 1, 8, .nilFunc⟩),
  (34, ⟨.other, 1, 8, .nilFunc⟩),
  (38, ⟨.int .u32, 1, 4, .int .u32 (0)⟩),
  (189, ⟨.struct [(0, 42), (8, 98), (10, 155)], 11, 88, .agg #[.int .i64 (0), .int .i64 (0), .int .i64 (0), .int .i64 (0), .int .i64 (0), .int .i64 (0), .int .i64 (0), .int .i64 (0), .int .i64 (0), .int .i64 (0), .nilFunc]⟩),
  (55, ⟨.other, 1, 8, .nilFunc⟩),
  (111, ⟨.pointer, 1, 8, .pointer none⟩),
  (56, ⟨.int .u16, 1, 2, .int .u16 (0)⟩),
  (138, ⟨.pointer, 1, 8, .pointer none⟩),
  (157, ⟨.struct [(0, 3), (1, 155)], 2, 16, .agg #[.int .i64 (0), .nilFunc]⟩),
  (20, ⟨.other, 1, 16, .nilIface⟩),
  (94, ⟨.other, 1, 8, .nilFunc⟩),
  (203, ⟨.int .u64, 1, 8, .int .u64 (0)⟩),
  (19, ⟨.struct [(0, 17)], 1, 8, .agg #[.pointer none]⟩),
  (75, ⟨.other, 1, 8, .nilFunc⟩),
  (198, ⟨.other, 1, 8, .nilFunc⟩),
  (217, ⟨.other, 1, 8, .nilFunc⟩),
  (26, ⟨.other, 1, 8, .nilFunc⟩),
  (207, ⟨.int .u64, 1, 8, .int .u64 (0)⟩),
  (211, ⟨.pointer, 1, 8, .pointer none⟩),
  (114, ⟨.other, 1, 8, .nilFunc⟩),
  (115, ⟨.other, 1, 8, .nilFunc⟩),
  (155, ⟨.other, 1, 8, .nilFunc⟩),
  (194, ⟨.int .i64, 1, 8, .int .i64 (0)⟩),
  (87, ⟨.struct [(0, 5), (1, 46)], 2, 32, .agg #[.int .u8 (0), .slice none 0 0]⟩),
  (143, ⟨.other, 1, 8, .nilFunc⟩),
  (148, ⟨.other, 1, 8, .nilFunc⟩),
  (48, ⟨.other, 1, 8, .nilFunc⟩),
  (88, ⟨.other, 1, 8, .nilFunc⟩),
  (113, ⟨.struct [(0, 30)], 1, 24, .agg #[.slice none 0 0]⟩),
  (120, ⟨.map 3 173, 1, 8, .map none⟩),
  (50, ⟨.other, 1, 8, .nilFunc⟩),
  (60, ⟨.other, 1, 8, .nilFunc⟩),
  (77, ⟨.other, 1, 8, .nilFunc⟩),
  (95, ⟨.struct [(0, 3), (1, 3), (2, 3), (3, 3)], 4, 32, .agg #[.int .i64 (0), .int .i64 (0), .int .i64 (0), .int .i64 (0)]⟩),
  (85, ⟨.slice 87, 1, 24, .slice none 0 0⟩),
  (89, ⟨.other, 1, 8, .nilFunc⟩),
  (90, ⟨.other, 1, 8, .nilFunc⟩),
  (106, ⟨.other, 1, 8, .nilFunc⟩),
  (116, ⟨.other, 1, 8, .nilFunc⟩),
  (123, ⟨.other, 1, 8, .nilFunc⟩),
  (151, ⟨.other, 1, 8, .nilFunc⟩),
  (173, ⟨.map 3 3, 1, 8, .map none⟩),
  (174, ⟨.other, 1, 8, .nilFunc⟩),
  (205, ⟨.other, 1, 8, .nilFunc⟩),
  (21, ⟨.int .i32, 1, 4, .int .i32 (0)⟩),
  (105, ⟨.other, 1, 8, .nilFunc⟩),
  (132, ⟨.other, 1, 8, .nilFunc⟩),
  (134, ⟨.other, 1, 8, .nilFunc⟩),
  (214, ⟨.pointer, 1, 8, .pointer none⟩),
  (65, ⟨.struct [(0, 3), (1, 63), (2, 64)], 3, 56, .agg #[.int .i64 (0), .slice none 0 0, .slice none 0 0]⟩),
  (69, ⟨.other, 1, 8, .nilFunc⟩),
  (72, ⟨.other, 1, 8, .nilFunc⟩),
  (80, ⟨.other, 1, 8, .nilFunc⟩),
  (81, ⟨.other, 1, 8, .nilFunc⟩),
  (86, ⟨.struct [(0, 5), (1, 46)], 2, 32, .agg #[.int .u8 (0), .slice none 0 0]⟩),
  (102, ⟨.array 16 46, 16, 384, .agg #[.slice none 0 0, .slice none 0 0, .slice none 0 0, .slice none 0 0, .slice none 0 0, .slice none 0 0, .slice none 0 0, .slice none 0 0, .slice none 0 0, .slice none 0 0, .slice none 0 0, .slice none 0 0, .slice none 0 0, .slice none 0 0, .slice none 0 0, .slice none 0 0]⟩),
  (107, ⟨.other, 1, 8, .nilFunc⟩),
  (124, ⟨.struct [(0, 122), (1, 123)], 2, 32, .agg #[.slice none 0 0, .nilFunc]⟩),
  (193, ⟨.other, 1, 8, .nilFunc⟩),
  (209, ⟨.other, 1, 8, .nilFunc⟩),
  (43, ⟨.struct [(0, 3), (1, 3)], 2, 16, .agg #[.int .i64 (0), .int .i64 (0)]⟩),
  (59, ⟨.other, 1, 8, .nilFunc⟩),
  (78, ⟨.other, 1, 8, .nilFunc⟩),
  (83, ⟨.other, 1, 8, .nilFunc⟩),
  (109, ⟨.other, 1, 8, .nilFunc⟩),
  (112, ⟨.struct [(0, 30)], 1, 24, .agg #[.slice none 0 0]⟩),
  (121, ⟨.slice 131, 1, 24, .slice none 0 0⟩),
  (139, ⟨.other, 1, 8, .nilFunc⟩),
  (153, ⟨.other, 1, 8, .nilFunc⟩),
  (159, ⟨.other, 1, 8, .nilFunc⟩),
  (204, ⟨.other, 1, 8, .nilFunc⟩),
  (210, ⟨.other, 1, 8, .nilFunc⟩),
  (216, ⟨.other, 1, 8, .nilFunc⟩),
  (31, ⟨.other, 1, 8, .nilFunc⟩),
  (45, ⟨.other, 1, 8, .nilFunc⟩),
  (52, ⟨.other, 1, 8, .nilFunc⟩),
  (58, ⟨.other, 1, 8, .nilFunc⟩),
  (82, ⟨.other, 1, 8, .nilFunc⟩),
  (97, ⟨.struct [(0, 3), (1, 3)], 2, 16, .agg #[.int .i64 (0), .int .i64 (0)]⟩),
  (99, ⟨.map 3 23, 1, 8, .map none⟩),
  (110, ⟨.other, 1, 8, .nilFunc⟩),
  (119, ⟨.other, 1, 8, .nilFunc⟩),
  (135, ⟨.other, 1, 8, .nilFunc⟩),
  (140, ⟨.other, 1, 8, .nilFunc⟩),
  (149, ⟨.other, 1, 8, .nilFunc⟩),
  (152, ⟨.other, 1, 8, .nilFunc⟩),
  (163, ⟨.other, 1, 8, .nilFunc⟩),
  (183, ⟨.other, 1, 8, .nilFunc⟩),
  (187, ⟨.other, 1, 8, .nilFunc⟩),
  (196, ⟨.other, 1, 8, .nilFunc⟩),
  (222, ⟨.struct [(0, 220)], 0, 0, .agg #[]⟩),
  (35, ⟨.other, 1, 8, .nilFunc⟩),
  (37, ⟨.other, 1, 8, .nilFunc⟩),
  (41, ⟨.struct [(0, 3), (1, 3), (2, 3), (3, 3), (4, 3), (5, 3), (6, 3), (7, 3)], 8, 64, .agg #[.int .i64 (0), .int .i64 (0), .int .i64 (0), .int .i64 (0), .int .i64 (0), .int .i64 (0), .int .i64 (0), .int .i64 (0)]⟩),
  (57, ⟨.other, 1, 8, .nilFunc⟩),
  (61, ⟨.other, 1, 8, .nilFunc⟩),
  (62, ⟨.other, 1, 8, .nilFunc⟩),
  (103, ⟨.struct [(0, 25), (3, 100), (4, 3), (5, 63), (6, 102)], 22, 480, .agg #[.slice none 0 0, .int .i64 (0), .slice none 0 0, .map none, .int .i64 (0), .slice none 0 0, .slice none 0 0, .slice none 0 0, .slice none 0 0, .slice none 0 0, .slice none 0 0, .slice none 0 0, .slice none 0 0, .slice none 0 0, .slice none 0 0, .slice none 0 0, .slice none 0 0, .slice none 0 0, .slice none 0 0, .slice none 0 0, .slice none 0 0, .slice none 0 0]⟩),
  (117, ⟨.other, 1, 8, .nilFunc⟩),
  (126, ⟨.struct [(0, 121), (1, 100), (2, 120), (3, 125)], 5, 72, .agg #[.slice none 0 0, .map none, .map none, .slice none 0 0, .nilFunc]⟩),
  (133, ⟨.other, 1, 8, .nilFunc⟩),
  (136, ⟨.other, 1, 8, .nilFunc⟩),
  (144, ⟨.slice 25, 1, 24, .slice none 0 0⟩),
  (164, ⟨.other, 1, 8, .nilFunc⟩),
  (165, ⟨.other, 1, 8, .nilFunc⟩),
  (178, ⟨.other, 1, 8, .nilFunc⟩),
  (181, ⟨.slice 23, 1, 24, .slice none 0 0⟩),
  (190, ⟨.other, 1, 8, .nilFunc⟩),
  (192, ⟨.other, 1, 8, .nilFunc⟩),
  (213, ⟨.other, 1, 8, .nilFunc⟩),
  (221, ⟨.struct [(0, 220)], 0, 0, .agg #[]⟩),
  (227, ⟨.int .i32, 1, 4, .int .i32 (0)⟩),
  (230, ⟨.struct [(0, 12), (1, 12), (2, 38), (3, 223), (4, 5), (5, 5), (6, 224), (7, 225), (8, 226), (9, 227), (10, 228)], 11, 48, .agg #[.int .u64 (0), .int .u64 (0), .int .u32 (0), .int .u8 (0), .int .u8 (0), .int .u8 (0), .int .u8 (0), .nilFunc, .pointer none, .int .i32 (0), .int .i32 (0)]⟩),
  (49, ⟨.other, 1, 8, .nilFunc⟩),
  (79, ⟨.other, 1, 8, .nilFunc⟩),
  (91, ⟨.struct [(0, 25), (3, 3), (4, 63), (5, 64)], 6, 112, .agg #[.slice none 0 0, .int .i64 (0), .slice none 0 0, .int .i64 (0), .slice none 0 0, .slice none 0 0]⟩),
  (130, ⟨.struct [(0, 42), (8, 98), (10, 3), (11, 3)], 12, 96, .agg #[.int .i64 (0), .int .i64 (0), .int .i64 (0), .int .i64 (0), .int .i64 (0), .int .i64 (0), .int .i64 (0), .int .i64 (0), .int .i64 (0), .int .i64 (0), .int .i64 (0), .int .i64 (0)]⟩),
  (137, ⟨.other, 1, 8, .nilFunc⟩),
  (162, ⟨.other, 1, 8, .nilFunc⟩),
  (167, ⟨.other, 1, 8, .nilFunc⟩),
  (179, ⟨.slice 22, 1, 24, .slice none 0 0⟩),
  (180, ⟨.other, 1, 8, .nilFunc⟩),
  (197, ⟨.other, 1, 8, .nilFunc⟩),
  (200, ⟨.other, 1, 8, .nilFunc⟩),
  (201, ⟨.other, 1, 8, .nilFunc⟩),
  (206, ⟨.other, 1, 8, .nilFunc⟩),
  (208, ⟨.other, 1, 8, .nilFunc⟩),
  (212, ⟨.other, 1, 8, .nilFunc⟩),
  (226, ⟨.pointer, 1, 8, .pointer none⟩),
  (231, ⟨.other, 1, 8, .pointer none⟩),
  (84, ⟨.other, 1, 8, .nilFunc⟩),
  (93, ⟨.other, 1, 8, .nilFunc⟩),
  (101, ⟨.array 16 46, 16, 384, .agg #[.slice none 0 0, .slice none 0 0, .slice none 0 0, .slice none 0 0, .slice none 0 0, .slice none 0 0, .slice none 0 0, .slice none 0 0, .slice none 0 0, .slice none 0 0, .slice none 0 0, .slice none 0 0, .slice none 0 0, .slice none 0 0, .slice none 0 0, .slice none 0 0]⟩),
  (145, ⟨.other, 1, 8, .nilFunc⟩),
  (146, ⟨.other, 1, 8, .nilFunc⟩),
  (147, ⟨.other, 1, 8, .nilFunc⟩),
  (150, ⟨.other, 1, 8, .nilFunc⟩),
  (154, ⟨.other, 1, 8, .nilFunc⟩),
  (156, ⟨.struct [(0, 3), (1, 155)], 2, 16, .agg #[.int .i64 (0), .nilFunc]⟩),
  (170, ⟨.other, 1, 8, .nilFunc⟩),
  (175, ⟨.other, 1, 8, .nilFunc⟩),
  (177, ⟨.other, 1, 8, .nilFunc⟩),
  (182, ⟨.other, 1, 8, .nilFunc⟩),
  (184, ⟨.other, 1, 8, .nilFunc⟩),
  (188, ⟨.struct [(0, 42), (8, 98), (10, 155)], 11, 88, .agg #[.int .i64 (0), .int .i64 (0), .int .i64 (0), .int .i64 (0), .int .i64 (0), .int .i64 (0), .int .i64 (0), .int .i64 (0), .int .i64 (0), .int .i64 (0), .nilFunc]⟩),
  (223, ⟨.int .u8, 1, 1, .int .u8 (0)⟩),
  (224, ⟨.int .u8, 1, 1, .int .u8 (0)⟩),
  (228, ⟨.int .i32, 1, 4, .int .i32 (0)⟩),
  (229, ⟨.struct [(0, 12), (1, 12), (2, 38), (3, 223), (4, 5), (5, 5), (6, 224), (7, 225), (8, 226), (9, 227), (10, 228)], 11, 48, .agg #[.int .u64 (0), .int .u64 (0), .int .u32 (0), .int .u8 (0), .int .u8 (0), .int .u8 (0), .int .u8 (0), .nilFunc, .pointer none, .int .i32 (0), .int .i32 (0)]⟩),
  (128, ⟨.struct [(0, 3), (1, 3)], 2, 16, .agg #[.int .i64 (0), .int .i64 (0)]⟩),
  (160, ⟨.other, 1, 8, .nilFunc⟩),
  (199, ⟨.other, 1, 8, .nilFunc⟩),
  (202, ⟨.other, 1, 8, .nilFunc⟩),
  (220, ⟨.array 0 16, 0, 0, .agg #[]⟩),
  (225, ⟨.other, 1, 8, .nilFunc⟩)]

theorem Try.okLay : LayOk Try.prog Try.lay := (LayOk.app Try.okLay0 (LayOk.app Try.okLay1 (LayOk.app Try.okLay2 (LayOk.app Try.okLay3 (LayOk.app Try.okLay4 (LayOk.app Try.okLay5 (LayOk.app Try.okLay6 (LayOk.app Try.okLay7 (LayOk.app Try.okLay8 (LayOk.app Try.okLay9 (LayOk.app Try.okLay10 (LayOk.app Try.okLay11 (LayOk.app Try.okLay12 (LayOk.app Try.okLay13 (LayOk.app Try.okLay14 (LayOk.app Try.okLay15 (LayOk.app Try.okLay16 (LayOk.app Try.okLay17 (trivial : LayOk Try.prog [])))))))))))))))))))

def Try.fns : List Nat := [2, 3, 4, 5, 6, 7, 8, 9, 10, 11, 12, 13, 14, 15, 16, 17, 18, 19, 20, 21, 22, 23, 24, 25, 26, 27, 28, 29, 30, 31, 32, 33, 34, 35, 36, 37, 38, 39, 40, 41, 42, 43, 44, 45, 46, 47, 48, 49, 50, 51, 52, 53, 54, 55, 56, 57, 58, 59, 60, 61, 62, 63, 64, 65, 66, 67, 68, 69, 70, 71, 72, 73, 74, 75, 76, 77, 78, 79, 80, 81, 82, 83, 84, 85, 86, 87, 88, 89, 90, 91, 92, 93, 94, 95, 96, 97, 98, 99, 100, 101, 102, 103, 104, 105, 106, 107, 108, 109, 110, 111, 112, 113, 114, 115, 116, 117, 118, 119, 120, 121, 122, 123, 124, 125, 126, 127, 128, 129, 130, 131, 132, 133, 134, 135, 136, 137, 138, 139, 140, 141]

theorem FnOk.cons {P : Program} {f : Nat} {l : List Nat} {fn : Func} (h1 : P.funcs[f]? = some fn) (h2 : fn.body.isNone = false) (h3 : (fn.name == "runtime.NumGoroutine") = false)
    (h : ∀ f ∈ l, ∃ fn, P.funcs[f]? = some fn ∧ fn.body.isNone = false ∧ (fn.name == "runtime.NumGoroutine") = false) : ∀ g ∈ f :: l, ∃ fn, P.funcs[g]? = some fn ∧ fn.body.isNone = false ∧ (fn.name == "runtime.NumGoroutine") = false := by
  intro g hg
  rcases List.mem_cons.1 hg with rfl | hg
  · exact ⟨fn, h1, h2, h3⟩
  · exact h g hg

theorem Try.okF6 : ∀ f ∈ ([122, 123, 124, 125, 126, 127, 128, 129, 130, 131, 132, 133, 134, 135, 136, 137, 138, 139, 140, 141] : List Nat), ∃ fn, Try.prog.funcs[f]? = some fn ∧ fn.body.isNone = false ∧ (fn.name == "runtime.NumGoroutine") = false :=
  (FnOk.cons Try.func122 rfl (by kernel_rfl) (FnOk.cons Try.func123 rfl (by kernel_rfl) (FnOk.cons Try.func124 rfl (by kernel_rfl) (FnOk.cons Try.func125 rfl (by kernel_rfl) (FnOk.cons Try.func126 rfl (by kernel_rfl) (FnOk.cons Try.func127 rfl (by kernel_rfl) (FnOk.cons Try.func128 rfl (by kernel_rfl) (FnOk.cons Try.func129 rfl (by kernel_rfl) (FnOk.cons Try.func130 rfl (by kernel_rfl) (FnOk.cons Try.func131 rfl (by kernel_rfl) (FnOk.cons Try.func132 rfl (by kernel_rfl) (FnOk.cons Try.func133 rfl (by kernel_rfl) (FnOk.cons Try.func134 rfl (by kernel_rfl) (FnOk.cons Try.func135 rfl (by kernel_rfl) (FnOk.cons Try.func136 rfl (by kernel_rfl) (FnOk.cons Try.func137 rfl (by kernel_rfl) (FnOk.cons Try.func138 rfl (by kernel_rfl) (FnOk.cons Try.func139 rfl (by kernel_rfl) (FnOk.cons Try.func140 rfl (by kernel_rfl) (FnOk.cons Try.func141 rfl (by kernel_rfl) (fun _ h => by cases h)))))))))))))))))))))

theorem Try.okF5 : ∀ f ∈ ([102, 103, 104, 105, 106, 107, 108, 109, 110, 111, 112, 113, 114, 115, 116, 117, 118, 119, 120, 121, 122, 123, 124, 125, 126, 127, 128, 129, 130, 131, 132, 133, 134, 135, 136, 137, 138, 139, 140, 141] : List Nat), ∃ fn, Try.prog.funcs[f]? = some fn ∧ fn.body.isNone = false ∧ (fn.name == "runtime.NumGoroutine") = false :=
  (FnOk.cons Try.func102 rfl (by kernel_rfl) (FnOk.cons Try.func103 rfl (by kernel_rfl) (FnOk.cons Try.func104 rfl (by kernel_rfl) (FnOk.cons Try.func105 rfl (by kernel_rfl) (FnOk.cons Try.func106 rfl (by kernel_rfl) (FnOk.cons Try.func107 rfl (by kernel_rfl) (FnOk.cons Try.func108 rfl (by kernel_rfl) (FnOk.cons Try.func109 rfl (by kernel_rfl) (FnOk.cons Try.func110 rfl (by kernel_rfl) (FnOk.cons Try.func111 rfl (by kernel_rfl) (FnOk.cons Try.func112 rfl (by kernel_rfl) (FnOk.cons Try.func113 rfl (by kernel_rfl) (FnOk.cons Try.func114 rfl (by kernel_rfl) (FnOk.cons Try.func115 rfl (by kernel_rfl) (FnOk.cons Try.func116 rfl (by kernel_rfl) (FnOk.cons Try.func117 rfl (by kernel_rfl) (FnOk.cons Try.func118 rfl (by kernel_rfl) (FnOk.cons Try.func119 rfl (by kernel_rfl) (FnOk.cons Try.func120 rfl (by kernel_rfl) (FnOk.cons Try.func121 rfl (by kernel_rfl) (Try.okF6)))))))))))))))))))))

theorem Try.okF4 : ∀ f ∈ ([82, 83, 84, 85, 86, 87, 88, 89, 90, 91, 92, 93, 94, 95, 96, 97, 98, 99, 100, 101, 102, 103, 104, 105, 106, 107, 108, 109, 110, 111, 112, 113, 114, 115, 116, 117, 118, 119, 120, 121, 122, 123, 124, 125, 126, 127, 128, 129, 130, 131, 132, 133, 134, 135, 136, 137, 138, 139, 140, 141] : List Nat), ∃ fn, Try.prog.funcs[f]? = some fn ∧ fn.body.isNone = false ∧ (fn.name == "runtime.NumGoroutine") = false :=
  (FnOk.cons Try.func82 rfl (by kernel_rfl) (FnOk.cons Try.func83 rfl (by kernel_rfl) (FnOk.cons Try.func84 rfl (by kernel_rfl) (FnOk.cons Try.func85 rfl (by kernel_rfl) (FnOk.cons Try.func86 rfl (by kernel_rfl) (FnOk.cons Try.func87 rfl (by kernel_rfl) (FnOk.cons Try.func88 rfl (by kernel_rfl) (FnOk.cons Try.func89 rfl (by kernel_rfl) (FnOk.cons Try.func90 rfl (by kernel_rfl) (FnOk.cons Try.func91 rfl (by kernel_rfl) (FnOk.cons Try.func92 rfl (by kernel_rfl) (FnOk.cons Try.func93 rfl (by kernel_rfl) (FnOk.cons Try.func94 rfl (by kernel_rfl) (FnOk.cons Try.func95 rfl (by kernel_rfl) (FnOk.cons Try.func96 rfl (by kernel_rfl) (FnOk.cons Try.func97 rfl (by kernel_rfl) (FnOk.cons Try.func98 rfl (by kernel_rfl) (FnOk.cons Try.func99 rfl (by kernel_rfl) (FnOk.cons Try.func100 rfl (by kernel_rfl) (FnOk.cons Try.func101 rfl (by kernel_rfl) (Try.okF5)))))))))))))))))))))

theorem Try.okF3 : ∀ f ∈ ([62, 63, 64, 65, 66, 67, 68, 69, 70, 71, 72, 73, 74, 75, 76, 77, 78, 79, 80, 81, 82, 83, 84, 85, 86, 87, 88, 89, 90, 91, 92, 93, 94, 95, 96, 97, 98, 99, 100, 101, 102, 103, 104, 105, 106, 107, 108, 109, 110, 111, 112, 113, 114, 115, 116, 117, 118, 119, 120, 121, 122, 123, 124, 125, 126, 127, 128, 129, 130, 131, 132, 133, 134, 135, 136, 137, 138, 139, 140, 141] : List Nat), ∃ fn, Try.prog.funcs[f]? = some fn ∧ fn.body.isNone = false ∧ (fn.name == "runtime.NumGoroutine") = false :=
  (FnOk.cons Try.func62 rfl (by kernel_rfl) (FnOk.cons Try.func63 rfl (by kernel_rfl) (FnOk.cons Try.func64 rfl (by kernel_rfl) (FnOk.cons Try.func65 rfl (by kernel_rfl) (FnOk.cons Try.func66 rfl (by kernel_rfl) (FnOk.cons Try.func67 rfl (by kernel_rfl) (FnOk.cons Try.func68 rfl (by kernel_rfl) (FnOk.cons Try.func69 rfl (by kernel_rfl) (FnOk.cons Try.func70 rfl (by kernel_rfl) (FnOk.cons Try.func71 rfl (by kernel_rfl) (FnOk.cons Try.func72 rfl (by kernel_rfl) (FnOk.cons Try.func73 rfl (by kernel_rfl) (FnOk.cons Try.func74 rfl (by kernel_rfl) (FnOk.cons Try.func75 rfl (by kernel_rfl) (FnOk.cons Try.func76 rfl (by kernel_rfl) (FnOk.cons Try.func77 rfl (by kernel_rfl) (FnOk.cons Try.func78 rfl (by kernel_rfl) (FnOk.cons Try.func79 rfl (by kernel_rfl) (FnOk.cons Try.func80 rfl (by kernel_rfl) (FnOk.cons Try.func81 rfl (by kernel_rfl) (Try.okF4)))))))))))))))))))))

theorem Try.okF2 : ∀ f ∈ ([42, 43, 44, 45, 46, 47, 48, 49, 50, 51, 52, 53, 54, 55, 56, 57, 58, 59, 60, 61, 62, 63, 64, 65, 66, 67, 68, 69, 70, 71, 72, 73, 74, 75, 76, 77, 78, 79, 80, 81, 82, 83, 84, 85, 86, 87, 88, 89, 90, 91, 92, 93, 94, 95, 96, 97, 98, 99, 100, 101, 102, 103, 104, 105, 106, 107, 108, 109, 110, 111, 112, 113, 114, 115, 116, 117, 118, 119, 120, 121, 122, 123, 124, 125, 126, 127, 128, 129, 130, 131, 132, 133, 134, 135, 136, 137, 138, 139, 140, 141] : List Nat), ∃ fn, Try.prog.funcs[f]? = some fn ∧ fn.body.isNone = false ∧ (fn.name == "runtime.NumGoroutine") = false :=
  (FnOk.cons Try.func42 rfl (by kernel_rfl) (FnOk.cons Try.func43 rfl (by kernel_rfl) (FnOk.cons Try.func44 rfl (by kernel_rfl) (FnOk.cons Try.func45 rfl (by kernel_rfl) (FnOk.cons Try.func46 rfl (by kernel_rfl) (FnOk.cons Try.func47 rfl (by kernel_rfl) (FnOk.cons Try.func48 rfl (by kernel_rfl) (FnOk.cons Try.func49 rfl (by kernel_rfl) (FnOk.cons Try.func50 rfl (by kernel_rfl) (FnOk.cons Try.func51 rfl (by kernel_rfl) (FnOk.cons Try.func52 rfl (by kernel_rfl) (FnOk.cons Try.func53 rfl (by kernel_rfl) (FnOk.cons Try.func54 rfl (by kernel_rfl) (FnOk.cons Try.func55 rfl (by kernel_rfl) (FnOk.cons Try.func56 rfl (by kernel_rfl) (FnOk.cons Try.func57 rfl (by kernel_rfl) (FnOk.cons Try.func58 rfl (by kernel_rfl) (FnOk.cons Try.func59 rfl (by kernel_rfl) (FnOk.cons Try.func60 rfl (by kernel_rfl) (FnOk.cons Try.func61 rfl (by kernel_rfl) (Try.okF3)))))))))))))))))))))

theorem Try.okF1 : ∀ f ∈ ([22, 23, 24, 25, 26, 27, 28, 29, 30, 31, 32, 33, 34, 35, 36, 37, 38, 39, 40, 41, 42, 43, 44, 45, 46, 47, 48, 49, 50, 51, 52, 53, 54, 55, 56, 57, 58, 59, 60, 61, 62, 63, 64, 65, 66, 67, 68, 69, 70, 71, 72, 73, 74, 75, 76, 77, 78, 79, 80, 81, 82, 83, 84, 85, 86, 87, 88, 89, 90, 91, 92, 93, 94, 95, 96, 97, 98, 99, 100, 101, 102, 103, 104, 105, 106, 107, 108, 109, 110, 111, 112, 113, 114, 115, 116, 117, 118, 119, 120, 121, 122, 123, 124, 125, 126, 127, 128, 129, 130, 131, 132, 133, 134, 135, 136, 137, 138, 139, 140, 141] : List Nat), ∃ fn, Try.prog.funcs[f]? = some fn ∧ fn.body.isNone = false ∧ (fn.name == "runtime.NumGoroutine") = false :=
  (FnOk.cons Try.func22 rfl (by kernel_rfl) (FnOk.cons Try.func23 rfl (by kernel_rfl) (FnOk.cons Try.func24 rfl (by kernel_rfl) (FnOk.cons Try.func25 rfl (by kernel_rfl) (FnOk.cons Try.func26 rfl (by kernel_rfl) (FnOk.cons Try.func27 rfl (by kernel_rfl) (FnOk.cons Try.func28 rfl (by kernel_rfl) (FnOk.cons Try.func29 rfl (by kernel_rfl) (FnOk.cons Try.func30 rfl (by kernel_rfl) (FnOk.cons Try.func31 rfl (by kernel_rfl) (FnOk.cons Try.func32 rfl (by kernel_rfl) (FnOk.cons Try.func33 rfl (by kernel_rfl) (FnOk.cons Try.func34 rfl (by kernel_rfl) (FnOk.cons Try.func35 rfl (by kernel_rfl) (FnOk.cons Try.func36 rfl (by kernel_rfl) (FnOk.cons Try.func37 rfl (by kernel_rfl) (FnOk.cons Try.func38 rfl (by kernel_rfl) (FnOk.cons Try.func39 rfl (by kernel_rfl) (FnOk.cons Try.func40 rfl (by kernel_rfl) (FnOk.cons Try.func41 rfl (by kernel_rfl) (Try.okF2)))))))))))))))))))))

theorem Try.okF0 : ∀ f ∈ ([2, 3, 4, 5, 6, 7, 8, 9, 10, 11, 12, 13, 14, 15, 16, 17, 18, 19, 20, 21, 22, 23, 24, 25, 26, 27, 28, 29, 30, 31, 32, 33, 34, 35, 36, 37, 38, 39, 40, 41, 42, 43, 44, 45, 46, 47, 48, 49, 50, 51, 52, 53, 54, 55, 56, 57, 58, 59, 60, 61, 62, 63, 64, 65, 66, 67, 68, 69, 70, 71, 72, 73, 74, 75, 76, 77, 78, 79, 80, 81, 82, 83, 84, 85, 86, 87, 88, 89, 90, 91, 92, 93, 94, 95, 96, 97, 98, 99, 100, 101, 102, 103, 104, 105, 106, 107, 108, 109, 110, 111, 112, 113, 114, 115, 116, 117, 118, 119, 120, 121, 122, 123, 124, 125, 126, 127, 128, 129, 130, 131, 132, 133, 134, 135, 136, 137, 138, 139, 140, 141] : List Nat), ∃ fn, Try.prog.funcs[f]? = some fn ∧ fn.body.isNone = false ∧ (fn.name == "runtime.NumGoroutine") = false :=
  (FnOk.cons Try.func2 rfl (by kernel_rfl) (FnOk.cons Try.func3 rfl (by kernel_rfl) (FnOk.cons Try.func4 rfl (by kernel_rfl) (FnOk.cons Try.func5 rfl (by kernel_rfl) (FnOk.cons Try.func6 rfl (by kernel_rfl) (FnOk.cons Try.func7 rfl (by kernel_rfl) (FnOk.cons Try.func8 rfl (by kernel_rfl) (FnOk.cons Try.func9 rfl (by kernel_rfl) (FnOk.cons Try.func10 rfl (by kernel_rfl) (FnOk.cons Try.func11 rfl (by kernel_rfl) (FnOk.cons Try.func12 rfl (by kernel_rfl) (FnOk.cons Try.func13 rfl (by kernel_rfl) (FnOk.cons Try.func14 rfl (by kernel_rfl) (FnOk.cons Try.func15 rfl (by kernel_rfl) (FnOk.cons Try.func16 rfl (by kernel_rfl) (FnOk.cons Try.func17 rfl (by kernel_rfl) (FnOk.cons Try.func18 rfl (by kernel_rfl) (FnOk.cons Try.func19 rfl (by kernel_rfl) (FnOk.cons Try.func20 rfl (by kernel_rfl) (FnOk.cons Try.func21 rfl (by kernel_rfl) (Try.okF1)))))))))))))))))))))

def Try.eqs : List Nat := [42, 44, 96, 98, 129, 131]

theorem Try.okE : ∀ t ∈ Try.eqs, eqTy Try.prog t = true := by
  intro t ht
  simp only [Try.eqs, List.mem_cons, List.not_mem_nil, or_false] at ht
  rcases ht with rfl | rfl | rfl | rfl | rfl | rfl <;> kernel_rfl

noncomputable def Try.cx : Cx := { P := Try.prog, L := Try.lay, fns := Try.fns, eqs := Try.eqs, okL := Try.okLay, okF := Try.okF0, okE := Try.okE, mixed := by kernel_rfl }

end Go.Proofs
