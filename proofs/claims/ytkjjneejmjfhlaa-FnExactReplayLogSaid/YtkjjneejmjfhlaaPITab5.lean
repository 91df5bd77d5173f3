import Derived.Test.YtkjjneejmjfhlaaPITab
import Derived.Test.YtkjjneejmjfhlaaProg
import Derived.KernelRfl
namespace Go.Proofs.Ytkjjneejmjfhlaa
open Go Go.PI
set_option maxRecDepth 100000
noncomputable def tab5 : Tab := {
  fns := [(3, Try.f3), (5, Try.f5), (6, Try.f6), (7, Try.f7), (8, Try.f8), (9, Try.f9), (10, Try.f10), (11, Try.f11), (12, Try.f12), (13, Try.f13), (14, Try.f14), (15, Try.f15), (16, Try.f16), (17, Try.f17), (20, Try.f20), (21, Try.f21), (22, Try.f22), (23, Try.f23), (24, Try.f24), (25, Try.f25), (26, Try.f26), (27, Try.f27), (28, Try.f28), (29, Try.f29), (30, Try.f30), (31, Try.f31), (32, Try.f32), (33, Try.f33), (34, Try.f34), (35, Try.f35), (36, Try.f36), (37, Try.f37), (38, Try.f38), (39, Try.f39), (40, Try.f40), (43, Try.f43), (44, Try.f44), (45, Try.f45), (46, Try.f46), (47, Try.f47), (48, Try.f48), (49, Try.f49), (50, Try.f50), (51, Try.f51), (52, Try.f52), (53, Try.f53), (54, Try.f54), (55, Try.f55), (56, Try.f56), (57, Try.f57), (58, Try.f58), (59, Try.f59), (60, Try.f60), (61, Try.f61), (62, Try.f62), (63, Try.f63), (64, Try.f64), (65, Try.f65), (71, Try.f71), (72, Try.f72), (73, Try.f73), (74, Try.f74), (75, Try.f75), (76, Try.f76), (77, Try.f77), (78, Try.f78), (79, Try.f79), (80, Try.f80), (81, Try.f81), (82, Try.f82), (83, Try.f83), (88, Try.f88), (89, Try.f89), (90, Try.f90), (91, Try.f91), (92, Try.f92), (93, Try.f93), (94, Try.f94), (95, Try.f95), (96, Try.f96), (97, Try.f97), (98, Try.f98), (99, Try.f99), (100, Try.f100), (101, Try.f101), (102, Try.f102), (103, Try.f103), (104, Try.f104), (105, Try.f105), (106, Try.f106), (107, Try.f107), (108, Try.f108), (109, Try.f109), (110, Try.f110)]
  tys := [
    (2, ⟨.int .i64, 1, 8, false, [.int .i64], [.int .i64 0]⟩),
    (3, ⟨.int .i64, 1, 8, false, [.int .i64], [.int .i64 0]⟩),
    (4, ⟨.bool, 1, 1, false, [.bool], [.bool false]⟩),
    (5, ⟨.int .u8, 1, 1, false, [.int .u8], [.int .u8 0]⟩),
    (9, ⟨.str, 1, 16, false, [.str], [.string ⟨#[]⟩]⟩),
    (22, ⟨.slice 86, 1, 24, false, [.sl], [.slice none 0 0]⟩),
    (24, ⟨.struct [(0, 2), (1, 22)], 2, 32, true, [.int .i64, .sl], [.int .i64 0, .slice none 0 0]⟩),
    (25, ⟨.slice 5, 1, 24, false, [.sl], [.slice none 0 0]⟩),
    (27, ⟨.slice 52, 1, 24, false, [.sl], [.slice none 0 0]⟩),
    (29, ⟨.struct [(0, 2), (1, 27)], 2, 32, true, [.int .i64, .sl], [.int .i64 0, .slice none 0 0]⟩),
    (31, ⟨.struct [(0, 2), (1, 29)], 3, 40, true, [.int .i64, .int .i64, .sl], [.int .i64 0, .int .i64 0, .slice none 0 0]⟩),
    (44, ⟨.struct [(0, 25), (1, 25)], 2, 48, true, [.sl, .sl], [.slice none 0 0, .slice none 0 0]⟩),
    (47, ⟨.slice 25, 1, 24, false, [.sl], [.slice none 0 0]⟩),
    (49, ⟨.struct [(0, 2), (1, 2), (2, 47)], 3, 40, true, [.int .i64, .int .i64, .sl], [.int .i64 0, .int .i64 0, .slice none 0 0]⟩),
    (52, ⟨.struct [(0, 2), (1, 2), (2, 2)], 3, 24, true, [.int .i64, .int .i64, .int .i64], [.int .i64 0, .int .i64 0, .int .i64 0]⟩),
    (54, ⟨.struct [(0, 25), (1, 25)], 2, 48, true, [.sl, .sl], [.slice none 0 0, .slice none 0 0]⟩),
    (63, ⟨.ptr 29, 1, 8, false, [.oth], [.pointer none]⟩),
    (68, ⟨.oth, 1, 8, false, [.oth], [.nilFunc]⟩),
    (81, ⟨.struct [(0, 2), (1, 25)], 2, 32, true, [.int .i64, .sl], [.int .i64 0, .slice none 0 0]⟩),
    (86, ⟨.struct [(0, 2), (1, 2), (2, 2)], 3, 24, true, [.int .i64, .int .i64, .int .i64], [.int .i64 0, .int .i64 0, .int .i64 0]⟩),
    (109, ⟨.int .u64, 1, 8, false, [.int .u64], [.int .u64 0]⟩),
    (112, ⟨.struct [(0, 2), (1, 2)], 2, 16, true, [.int .i64, .int .i64], [.int .i64 0, .int .i64 0]⟩),
    (125, ⟨.oth, 1, 8, false, [.oth], [.nilFunc]⟩),
    (128, ⟨.arr 64 2, 64, 512, true, [.int .i64, .int .i64, .int .i64, .int .i64, .int .i64, .int .i64, .int .i64, .int .i64, .int .i64, .int .i64, .int .i64, .int .i64, .int .i64, .int .i64, .int .i64, .int .i64, .int .i64, .int .i64, .int .i64, .int .i64, .int .i64, .int .i64, .int .i64, .int .i64, .int .i64, .int .i64, .int .i64, .int .i64, .int .i64, .int .i64, .int .i64, .int .i64, .int .i64, .int .i64, .int .i64, .int .i64, .int .i64, .int .i64, .int .i64, .int .i64, .int .i64, .int .i64, .int .i64, .int .i64, .int .i64, .int .i64, .int .i64, .int .i64, .int .i64, .int .i64, .int .i64, .int .i64, .int .i64, .int .i64, .int .i64, .int .i64, .int .i64, .int .i64, .int .i64, .int .i64, .int .i64, .int .i64, .int .i64, .int .i64], [.int .i64 0, .int .i64 0, .int .i64 0, .int .i64 0, .int .i64 0, .int .i64 0, .int .i64 0, .int .i64 0, .int .i64 0, .int .i64 0, .int .i64 0, .int .i64 0, .int .i64 0, .int .i64 0, .int .i64 0, .int .i64 0, .int .i64 0, .int .i64 0, .int .i64 0, .int .i64 0, .int .i64 0, .int .i64 0, .int .i64 0, .int .i64 0, .int .i64 0, .int .i64 0, .int .i64 0, .int .i64 0, .int .i64 0, .int .i64 0, .int .i64 0, .int .i64 0, .int .i64 0, .int .i64 0, .int .i64 0, .int .i64 0, .int .i64 0, .int .i64 0, .int .i64 0, .int .i64 0, .int .i64 0, .int .i64 0, .int .i64 0, .int .i64 0, .int .i64 0, .int .i64 0, .int .i64 0, .int .i64 0, .int .i64 0, .int .i64 0, .int .i64 0, .int .i64 0, .int .i64 0, .int .i64 0, .int .i64 0, .int .i64 0, .int .i64 0, .int .i64 0, .int .i64 0, .int .i64 0, .int .i64 0, .int .i64 0, .int .i64 0, .int .i64 0]⟩),
    (130, ⟨.arr 8 2, 8, 64, true, [.int .i64, .int .i64, .int .i64, .int .i64, .int .i64, .int .i64, .int .i64, .int .i64], [.int .i64 0, .int .i64 0, .int .i64 0, .int .i64 0, .int .i64 0, .int .i64 0, .int .i64 0, .int .i64 0]⟩),
    (134, ⟨.int .u64, 1, 8, false, [.int .u64], [.int .u64 0]⟩),
    (135, ⟨.int .u32, 1, 4, false, [.int .u32], [.int .u32 0]⟩),
    (136, ⟨.arr 8 135, 8, 32, true, [.int .u32, .int .u32, .int .u32, .int .u32, .int .u32, .int .u32, .int .u32, .int .u32], [.int .u32 0, .int .u32 0, .int .u32 0, .int .u32 0, .int .u32 0, .int .u32 0, .int .u32 0, .int .u32 0]⟩),
    (138, ⟨.arr 64 135, 64, 256, true, [.int .u32, .int .u32, .int .u32, .int .u32, .int .u32, .int .u32, .int .u32, .int .u32, .int .u32, .int .u32, .int .u32, .int .u32, .int .u32, .int .u32, .int .u32, .int .u32, .int .u32, .int .u32, .int .u32, .int .u32, .int .u32, .int .u32, .int .u32, .int .u32, .int .u32, .int .u32, .int .u32, .int .u32, .int .u32, .int .u32, .int .u32, .int .u32, .int .u32, .int .u32, .int .u32, .int .u32, .int .u32, .int .u32, .int .u32, .int .u32, .int .u32, .int .u32, .int .u32, .int .u32, .int .u32, .int .u32, .int .u32, .int .u32, .int .u32, .int .u32, .int .u32, .int .u32, .int .u32, .int .u32, .int .u32, .int .u32, .int .u32, .int .u32, .int .u32, .int .u32, .int .u32, .int .u32, .int .u32, .int .u32], [.int .u32 0, .int .u32 0, .int .u32 0, .int .u32 0, .int .u32 0, .int .u32 0, .int .u32 0, .int .u32 0, .int .u32 0, .int .u32 0, .int .u32 0, .int .u32 0, .int .u32 0, .int .u32 0, .int .u32 0, .int .u32 0, .int .u32 0, .int .u32 0, .int .u32 0, .int .u32 0, .int .u32 0, .int .u32 0, .int .u32 0, .int .u32 0, .int .u32 0, .int .u32 0, .int .u32 0, .int .u32 0, .int .u32 0, .int .u32 0, .int .u32 0, .int .u32 0, .int .u32 0, .int .u32 0, .int .u32 0, .int .u32 0, .int .u32 0, .int .u32 0, .int .u32 0, .int .u32 0, .int .u32 0, .int .u32 0, .int .u32 0, .int .u32 0, .int .u32 0, .int .u32 0, .int .u32 0, .int .u32 0, .int .u32 0, .int .u32 0, .int .u32 0, .int .u32 0, .int .u32 0, .int .u32 0, .int .u32 0, .int .u32 0, .int .u32 0, .int .u32 0, .int .u32 0, .int .u32 0, .int .u32 0, .int .u32 0, .int .u32 0, .int .u32 0]⟩)]
  inl := []
  wri := [(14, 1), (15, 1), (16, 1), (28, 1), (32, 2), (36, 2), (37, 2), (39, 1), (55, 2), (56, 2), (57, 2), (61, 2), (62, 2), (63, 2), (96, 2)]
  els := [(22, [86]), (24, [86]), (25, [5]), (27, [52]), (29, [52]), (31, [52]), (44, [5, 5]), (47, [25]), (49, [25]), (54, [5, 5]), (81, [5])]
  own := [(8, [some 52]), (9, [some 5]), (10, [some 52]), (20, [some 52]), (26, [some 5, some 5]), (31, [some 52]), (34, [some 52]), (35, [some 52]), (46, [some 5]), (59, [some 52]), (78, [some 52]), (90, [some 5])]
  live := [(9, 0, [0, 3, 4]), (13, 0, [0, 1, 5]), (15, 0, [0, 1, 5]), (20, 0, [2, 4, 18, 19, 20]), (23, 1, [1, 16, 17, 18]), (30, 0, [1, 3]), (34, 0, [0, 3, 4]), (38, 0, [0, 1, 5]), (39, 0, [0, 1, 5]), (43, 0, [0, 2, 4, 5]), (46, 0, [0, 3, 9, 10, 11]), (46, 2, [6, 25, 26, 27]), (49, 0, [0, 2, 3, 4]), (52, 0, [0, 3, 4]), (65, 0, [0, 1, 5]), (71, 0, [0, 4, 5]), (75, 0, [0, 1, 5]), (76, 0, [0, 1, 5]), (79, 0, [2, 3, 10, 11, 12]), (92, 0, [0, 3, 4]), (94, 0, [0, 3, 4]), (95, 0, [0, 1, 7, 8]), (98, 0, [3, 4, 5, 6]), (98, 2, [3, 4, 5, 6, 7, 8]), (98, 4, [3, 4, 5, 6, 7, 9]), (98, 6, [3, 4, 5, 6, 7, 14, 15]), (98, 8, [3, 4, 5, 6, 14, 16]), (98, 10, [4, 17, 18]), (98, 12, [4, 17, 18, 19]), (99, 0, [3, 13, 14, 15]), (99, 2, [3, 6]), (99, 4, [3, 6, 7]), (99, 6, [3, 8]), (99, 8, [9, 59, 60]), (102, 0, [0, 3]), (102, 2, [3, 4, 5]), (105, 0, [1, 2, 4, 5, 16]), (105, 2, [2, 4, 5, 11, 97, 98]), (105, 4, [2, 4, 11, 109])]
  plan := [
    (3, 13, [], [2, 7], [], .take 0 <| .take 1 <| .alt 2 (.alt 3 (.take 4 <| .done) .nil) .nil),
    (5, 10, [], [1, 5], [], .take 0 <| .take 1 <| .alt 2 (.alt 3 (.take 4 <| .done) .nil) .nil),
    (13, 6, [], [], [], .take 0 <| .take 1 <| .take 2 <| .take 3 <| .take 4 <| .take 5 <| .take 6 <| .take 7 <| .take 8 <| .done),
    (23, 10, [], [], [], .take 0 <| .take 1 <| .take 2 <| .take 3 <| .take 4 <| .take 5 <| .take 6 <| .take 7 <| .take 8 <| .take 9 <| .take 10 <| .take 11 <| .take 12 <| .take 13 <| .take 14 <| .done),
    (24, 4, [], [1], [8], .take 1 <| .take 2 <| .take 4 <| .take 5 <| .alt 0 (.alt 3 (.alt 6 (.alt 7 (.alt 8 (.done) .nil) .nil) .nil) .nil) .nil),
    (30, 11, [], [], [], .take 0 <| .take 1 <| .take 2 <| .take 3 <| .take 4 <| .take 5 <| .take 6 <| .take 7 <| .take 8 <| .take 9 <| .take 10 <| .take 11 <| .take 12 <| .take 13 <| .done),
    (38, 6, [], [0, 1, 5], [], .take 0 <| .take 1 <| .take 2 <| .take 3 <| .take 4 <| .take 5 <| .take 6 <| .take 7 <| .alt 8 (.take 9 <| .done) .nil),
    (49, 7, [0, 4, 5, 6], [], [], .take 0 <| .take 2 <| .take 3 <| .take 4 <| .take 5 <| .take 6 <| .take 7 <| .take 8 <| .alt 1 (.alt 9 (.take 10 <| .done) .nil) .nil),
    (49, 8, [6], [3], [8], .take 0 <| .take 1 <| .take 3 <| .alt 2 (.alt 4 (.alt 5 (.alt 6 (.take 7 <| .alt 8 (.done) .nil) .nil) .nil) .nil) .nil),
    (56, 9, [], [], [7], .take 0 <| .take 1 <| .take 2 <| .take 3 <| .take 4 <| .take 5 <| .take 6 <| .alt 7 (.done) .nil),
    (57, 4, [5], [0], [19], .take 0 <| .take 2 <| .take 3 <| .take 4 <| .take 5 <| .take 6 <| .take 7 <| .take 9 <| .take 10 <| .take 11 <| .take 12 <| .take 13 <| .take 14 <| .take 15 <| .alt 1 (.alt 8 (.alt 16 (.alt 17 (.take 18 <| .alt 19 (.done) .nil) .nil) .nil) .nil) .nil),
    (60, 3, [0], [], [], .take 0 <| .take 1 <| .take 2 <| .take 3 <| .take 4 <| .take 5 <| .take 8 <| .take 9 <| .alt 6 (.take 7 <| .alt 10 (.take 11 <| .take 12 <| .take 13 <| .take 14 <| .done) .nil) .nil),
    (71, 7, [0, 5, 7, 8], [], [], .take 0 <| .take 1 <| .take 2 <| .take 3 <| .take 4 <| .alt 5 (.alt 6 (.take 7 <| .done) .nil) .nil),
    (73, 2, [0, 3], [], [], .take 0 <| .take 1 <| .take 2 <| .take 4 <| .take 6 <| .take 7 <| .alt 3 (.alt 5 (.alt 8 (.take 9 <| .done) .nil) .nil) .nil),
    (75, 4, [], [], [], .take 0 <| .take 1 <| .take 2 <| .take 3 <| .take 4 <| .take 5 <| .take 6 <| .take 7 <| .take 8 <| .done),
    (75, 6, [], [], [], .take 0 <| .take 1 <| .take 2 <| .take 3 <| .take 4 <| .take 5 <| .take 6 <| .take 7 <| .take 8 <| .done),
    (83, 5, [1, 2], [], [], .take 0 <| .take 1 <| .take 2 <| .take 3 <| .take 4 <| .take 5 <| .alt 6 (.take 7 <| .done) .nil),
    (98, 19, [], [], [16], .take 0 <| .take 1 <| .take 2 <| .take 3 <| .take 4 <| .take 5 <| .take 6 <| .take 7 <| .take 8 <| .take 9 <| .take 10 <| .take 11 <| .take 12 <| .take 13 <| .take 14 <| .take 15 <| .alt 16 (.done) .nil),
    (98, 24, [], [3, 7, 14, 15], [8], .take 0 <| .take 1 <| .take 2 <| .take 3 <| .take 4 <| .take 5 <| .take 6 <| .alt 7 (.alt 8 (.done) .nil) .nil),
    (98, 28, [], [], [10], .take 0 <| .take 1 <| .take 2 <| .take 3 <| .take 4 <| .take 5 <| .take 6 <| .take 7 <| .take 8 <| .take 9 <| .alt 10 (.done) .nil),
    (99, 18, [3], [8], [4], .take 0 <| .take 1 <| .take 2 <| .alt 3 (.alt 4 (.done) .nil) .nil),
    (104, 4, [8], [], [], .take 0 <| .take 1 <| .take 2 <| .take 3 <| .take 4 <| .take 6 <| .take 7 <| .alt 5 (.take 8 <| .take 9 <| .take 10 <| .done) .nil),
    (105, 6, [], [], [35], .take 0 <| .take 1 <| .take 2 <| .take 3 <| .take 4 <| .take 5 <| .take 6 <| .take 7 <| .take 8 <| .take 9 <| .take 10 <| .take 11 <| .take 12 <| .take 13 <| .take 14 <| .take 15 <| .take 16 <| .take 17 <| .take 18 <| .take 19 <| .take 20 <| .take 21 <| .take 22 <| .take 23 <| .take 24 <| .take 25 <| .take 26 <| .take 27 <| .take 28 <| .take 29 <| .take 30 <| .take 31 <| .take 32 <| .take 33 <| .take 34 <| .alt 35 (.done) .nil),
    (105, 7, [], [], [], .take 0 <| .take 1 <| .take 2 <| .take 3 <| .take 4 <| .take 5 <| .take 6 <| .take 7 <| .take 8 <| .take 9 <| .done),
    (105, 10, [], [], [15], .take 0 <| .take 1 <| .take 2 <| .take 3 <| .take 4 <| .take 5 <| .take 6 <| .take 7 <| .take 8 <| .take 9 <| .take 10 <| .take 11 <| .take 12 <| .take 13 <| .take 14 <| .alt 15 (.done) .nil),
    (105, 16, [13], [5, 11, 12], [6], .take 0 <| .take 1 <| .take 2 <| .take 3 <| .take 4 <| .alt 5 (.alt 6 (.done) .nil) .nil),
    (105, 21, [], [], [8], .take 0 <| .take 1 <| .take 2 <| .take 3 <| .take 4 <| .take 5 <| .take 6 <| .take 7 <| .alt 8 (.done) .nil),
    (109, 2, [], [], [], .take 0 <| .take 1 <| .take 2 <| .take 3 <| .take 4 <| .take 5 <| .done),
    (109, 3, [7, 9], [], [], .take 0 <| .take 1 <| .take 2 <| .take 3 <| .take 5 <| .take 6 <| .take 9 <| .take 10 <| .take 14 <| .take 15 <| .take 16 <| .take 17 <| .take 18 <| .take 19 <| .take 20 <| .take 21 <| .take 22 <| .take 23 <| .take 25 <| .take 27 <| .alt 4 (.alt 7 (.take 8 <| .alt 11 (.take 12 <| .take 13 <| .take 24 <| .take 26 <| .take 28 <| .take 29 <| .done) .nil) .nil) .nil),
    (109, 4, [7, 8], [], [], .take 0 <| .take 1 <| .take 3 <| .take 4 <| .take 7 <| .take 8 <| .take 11 <| .take 12 <| .take 13 <| .take 14 <| .take 15 <| .take 16 <| .take 17 <| .take 18 <| .take 19 <| .take 20 <| .take 21 <| .take 22 <| .take 23 <| .take 24 <| .take 25 <| .alt 2 (.alt 5 (.take 6 <| .alt 9 (.take 10 <| .take 26 <| .take 27 <| .done) .nil) .nil) .nil)]
  prims := [(72, .grow 5), (83, .delete 52)] }
end Go.Proofs.Ytkjjneejmjfhlaa
