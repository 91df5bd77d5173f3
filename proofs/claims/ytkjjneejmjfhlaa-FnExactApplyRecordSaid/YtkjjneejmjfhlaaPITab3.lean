import Derived.Test.YtkjjneejmjfhlaaPITab
import Derived.Test.YtkjjneejmjfhlaaProg
import Derived.KernelRfl
namespace Go.Proofs.Ytkjjneejmjfhlaa
open Go Go.PI
set_option maxRecDepth 100000
noncomputable def tab3 : Tab := {
  fns := [(3, Try.f3), (6, Try.f6), (7, Try.f7), (8, Try.f8), (9, Try.f9), (10, Try.f10), (11, Try.f11), (12, Try.f12), (13, Try.f13), (14, Try.f14), (15, Try.f15), (16, Try.f16), (17, Try.f17), (23, Try.f23), (29, Try.f29), (30, Try.f30), (31, Try.f31), (32, Try.f32), (33, Try.f33), (34, Try.f34), (35, Try.f35), (36, Try.f36), (37, Try.f37), (38, Try.f38), (39, Try.f39), (40, Try.f40), (47, Try.f47), (51, Try.f51), (52, Try.f52), (53, Try.f53), (54, Try.f54), (55, Try.f55), (56, Try.f56), (57, Try.f57), (58, Try.f58), (59, Try.f59), (60, Try.f60), (61, Try.f61), (62, Try.f62), (63, Try.f63), (64, Try.f64), (65, Try.f65), (74, Try.f74), (75, Try.f75), (76, Try.f76), (77, Try.f77), (78, Try.f78), (79, Try.f79), (80, Try.f80), (81, Try.f81), (82, Try.f82), (83, Try.f83), (88, Try.f88), (92, Try.f92), (93, Try.f93), (94, Try.f94), (95, Try.f95), (96, Try.f96)]
  tys := [
    (2, ⟨.int .i64, 1, 8, false, [.int .i64], [.int .i64 0]⟩),
    (3, ⟨.int .i64, 1, 8, false, [.int .i64], [.int .i64 0]⟩),
    (4, ⟨.bool, 1, 1, false, [.bool], [.bool false]⟩),
    (5, ⟨.int .u8, 1, 1, false, [.int .u8], [.int .u8 0]⟩),
    (9, ⟨.str, 1, 16, false, [.str], [.string ⟨#[]⟩]⟩),
    (22, ⟨.slice 86, 1, 24, false, [.sl], [.slice none 0 0]⟩),
    (24, ⟨.struct [(0, 2), (1, 22)], 2, 32, true, [.int .i64, .sl], [.int .i64 0, .slice none 0 0]⟩),
    (25, ⟨.slice 5, 1, 24, false, [.sl], [.slice none 0 0]⟩),
    (27, ⟨.slice 52, 1, 24, false, [.sl], [.slice none 0 0]⟩),
    (29, ⟨.struct [(0, 2), (1, 27)], 2, 32, true, [.int .i64, .sl], [.int .i64 0, .slice none 0 0]⟩),
    (31, ⟨.struct [(0, 2), (1, 29)], 3, 40, true, [.int .i64, .int .i64, .sl], [.int .i64 0, .int .i64 0, .slice none 0 0]⟩),
    (52, ⟨.struct [(0, 2), (1, 2), (2, 2)], 3, 24, true, [.int .i64, .int .i64, .int .i64], [.int .i64 0, .int .i64 0, .int .i64 0]⟩),
    (63, ⟨.ptr 29, 1, 8, false, [.oth], [.pointer none]⟩),
    (68, ⟨.oth, 1, 8, false, [.oth], [.nilFunc]⟩),
    (81, ⟨.struct [(0, 2), (1, 25)], 2, 32, true, [.int .i64, .sl], [.int .i64 0, .slice none 0 0]⟩),
    (86, ⟨.struct [(0, 2), (1, 2), (2, 2)], 3, 24, true, [.int .i64, .int .i64, .int .i64], [.int .i64 0, .int .i64 0, .int .i64 0]⟩),
    (109, ⟨.int .u64, 1, 8, false, [.int .u64], [.int .u64 0]⟩),
    (112, ⟨.struct [(0, 2), (1, 2)], 2, 16, true, [.int .i64, .int .i64], [.int .i64 0, .int .i64 0]⟩),
    (125, ⟨.oth, 1, 8, false, [.oth], [.nilFunc]⟩)]
  inl := []
  wri := [(14, 1), (15, 1), (16, 1), (32, 2), (36, 2), (37, 2), (39, 1), (55, 2), (56, 2), (57, 2), (61, 2), (62, 2), (63, 2), (96, 2)]
  els := [(22, [86]), (24, [86]), (25, [5]), (27, [52]), (29, [52]), (31, [52]), (81, [5])]
  own := [(8, [some 52]), (9, [some 5]), (10, [some 52]), (31, [some 52]), (34, [some 52]), (35, [some 52]), (59, [some 52]), (78, [some 52])]
  live := [(9, 0, [0, 3, 4]), (13, 0, [0, 1, 5]), (15, 0, [0, 1, 5]), (23, 1, [1, 16, 17, 18]), (30, 0, [1, 3]), (34, 0, [0, 3, 4]), (38, 0, [0, 1, 5]), (39, 0, [0, 1, 5]), (52, 0, [0, 3, 4]), (65, 0, [0, 1, 5]), (75, 0, [0, 1, 5]), (76, 0, [0, 1, 5]), (79, 0, [2, 3, 10, 11, 12]), (92, 0, [0, 3, 4]), (94, 0, [0, 3, 4]), (95, 0, [0, 1, 7, 8])]
  plan := [
    (3, 13, [], [2, 7], [], .take 0 <| .take 1 <| .alt 2 (.alt 3 (.take 4 <| .done) .nil) .nil),
    (13, 6, [], [], [], .take 0 <| .take 1 <| .take 2 <| .take 3 <| .take 4 <| .take 5 <| .take 6 <| .take 7 <| .take 8 <| .done),
    (23, 10, [], [], [], .take 0 <| .take 1 <| .take 2 <| .take 3 <| .take 4 <| .take 5 <| .take 6 <| .take 7 <| .take 8 <| .take 9 <| .take 10 <| .take 11 <| .take 12 <| .take 13 <| .take 14 <| .done),
    (30, 11, [], [], [], .take 0 <| .take 1 <| .take 2 <| .take 3 <| .take 4 <| .take 5 <| .take 6 <| .take 7 <| .take 8 <| .take 9 <| .take 10 <| .take 11 <| .take 12 <| .take 13 <| .done),
    (38, 6, [], [0, 1, 5], [], .take 0 <| .take 1 <| .take 2 <| .take 3 <| .take 4 <| .take 5 <| .take 6 <| .take 7 <| .alt 8 (.take 9 <| .done) .nil),
    (56, 9, [], [], [7], .take 0 <| .take 1 <| .take 2 <| .take 3 <| .take 4 <| .take 5 <| .take 6 <| .alt 7 (.done) .nil),
    (57, 4, [5], [0], [19], .take 0 <| .take 2 <| .take 3 <| .take 4 <| .take 5 <| .take 6 <| .take 7 <| .take 9 <| .take 10 <| .take 11 <| .take 12 <| .take 13 <| .take 14 <| .take 15 <| .alt 1 (.alt 8 (.alt 16 (.alt 17 (.take 18 <| .alt 19 (.done) .nil) .nil) .nil) .nil) .nil),
    (60, 3, [0], [], [], .take 0 <| .take 1 <| .take 2 <| .take 3 <| .take 4 <| .take 5 <| .take 8 <| .take 9 <| .alt 6 (.take 7 <| .alt 10 (.take 11 <| .take 12 <| .take 13 <| .take 14 <| .done) .nil) .nil),
    (75, 4, [], [], [], .take 0 <| .take 1 <| .take 2 <| .take 3 <| .take 4 <| .take 5 <| .take 6 <| .take 7 <| .take 8 <| .done),
    (75, 6, [], [], [], .take 0 <| .take 1 <| .take 2 <| .take 3 <| .take 4 <| .take 5 <| .take 6 <| .take 7 <| .take 8 <| .done),
    (83, 5, [1, 2], [], [], .take 0 <| .take 1 <| .take 2 <| .take 3 <| .take 4 <| .take 5 <| .alt 6 (.take 7 <| .done) .nil)]
  prims := [(83, .delete 52)] }
end Go.Proofs.Ytkjjneejmjfhlaa
