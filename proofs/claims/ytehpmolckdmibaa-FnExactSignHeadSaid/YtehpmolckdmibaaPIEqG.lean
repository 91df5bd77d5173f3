/-
  The functions of a table, as the interpreter tells them. Printed by a program.
-/
import Derived.Test.YtehpmolckdmibaaPITabG
import Derived.Test.YtehpmolckdmibaaPIPlain
import Derived.KernelRfl
namespace Go.Proofs.Ytehpmolckdmibaa.EqG
open Go Go.PI
set_option maxRecDepth 100000
set_option maxHeartbeats 4000000
set_option linter.unusedVariables false
set_option linter.unusedSimpArgs false
noncomputable abbrev C := tabG.cfg

noncomputable def T9 (O : Orc) (k m q0 q1 : Nat) (y1 : Nat) (y2 : List V) (y3 : Nat) (y4 : List V) (y5 : Int) (y6 : Int) (y7 : Int) (y8 : Nat) (y9 : List V) (y10 : Nat) (y11 : List V) (y12 : Nat) (y13
 : List V) : Option V := bif decide ((↑y3 : Int) > 1048576) then some (V.tup [V.bool true]) else need (O.R 0 66 [V.sl y1 y2, V.int .i64 1048576]) fun x1 => asTup (some x1) fun x2 => PI.asInt .i64
 x2[0]? fun x3 => bif decide (x3 < 0) then some (V.tup [V.bool true]) else need (O.R 0 28 [V.agg [V.int .i64 y6, V.int .i64 y7, V.sl y8 y9, V.sl y10 y11, V.sl y12 y13], V.int .i64 x3]) fun x4 => asTup
 (some x4) fun x5 => PI.asInt .i64 x5[0]? fun x6 => bif decide (x6 < 0) then some (V.tup [V.bool true]) else need (O.R 0 67 [V.sl y1 y2]) fun x7 => asTup (some x7) fun x8 => asOsl x8[0]? fun x9 x10 =>
 need (O.R 0 68 [V.sl y3 y4]) fun x11 => asTup (some x11) fun x12 => asOsl x12[0]? fun x13 x14 => need (O.R 0 31 [V.agg [V.int .i64 y6, V.int .i64 y7, V.sl y8 y9, V.sl y10 y11, V.sl y12 y13]]) fun x15
 => asTup (some x15) fun x16 => PI.asInt .i64 x16[0]? fun x17 => PI.asInt .i64 x16[1]? fun x18 => asOsl x16[2]? fun x19 x20 => asOsl x16[3]? fun x21 x22 => asOsl x16[4]? fun x23 x24 => need (O.R 0 52
 [V.sl x9 (bareL x10), V.sl x13 x14, V.int .i64 y5, V.agg [V.int .i64 x17, V.int .i64 x18, V.sl x19 x20, V.sl x21 x22, V.sl x23 x24]]) fun x25 => asTup (some x25) fun x26 => PI.asInt .i64 x26[0]? fun
 x27 => PI.asInt .i64 x26[1]? fun x28 => PI.asInt .i64 x26[2]? fun x29 => asOsl x26[3]? fun x30 x31 => asOsl x26[4]? fun x32 x33 => asOsl x26[5]? fun x34 x35 => asOsl x26[6]? fun x36 x37 => need (O.R 0
 67 [V.sl y1 y2]) fun x38 => asTup (some x38) fun x39 => asOsl x39[0]? fun x40 x41 => need (O.R 0 68 [V.sl y3 y4]) fun x42 => asTup (some x42) fun x43 => asOsl x43[0]? fun x44 x45 => need (O.R 0 31
 [V.agg [V.int .i64 y6, V.int .i64 y7, V.sl y8 y9, V.sl y10 y11, V.sl y12 y13]]) fun x46 => asTup (some x46) fun x47 => PI.asInt .i64 x47[0]? fun x48 => PI.asInt .i64 x47[1]? fun x49 => asOsl x47[2]?
 fun x50 x51 => asOsl x47[3]? fun x52 x53 => asOsl x47[4]? fun x54 x55 => need (O.R 0 51 [V.sl x40 (bareL x41), V.sl x44 x45, V.int .i64 y5, V.agg [V.int .i64 x48, V.int .i64 x49, V.sl x50 x51, V.sl
 x52 x53, V.sl x54 x55]]) fun x56 => asTup (some x56) fun x57 => PI.asInt .i64 x57[0]? fun x58 => PI.asInt .i64 x57[1]? fun x59 => PI.asInt .i64 x57[2]? fun x60 => asOsl x57[3]? fun x61 x62 => asOsl
 x57[4]? fun x63 x64 => asOsl x57[5]? fun x65 x66 => asOsl x57[6]? fun x67 x68 => need (O.R 0 69 [V.agg [V.int .i64 x58, V.int .i64 x59, V.int .i64 x60, V.sl x61 x62, V.sl x63 x64, V.sl x65 x66, V.sl
 x67 (bareL x68)], V.agg [V.int .i64 x27, V.int .i64 x28, V.int .i64 x29, V.sl x30 x31, V.sl x32 x33, V.sl x34 x35, V.sl x36 (bareL x37)]]) fun x69 => asTup (some x69) fun x70 => PI.asBool x70[0]? fun
 x71 => bif !x71 then some (V.tup [V.bool false]) else need (O.R 0 67 [V.sl y1 y2]) fun x72 => asTup (some x72) fun x73 => asOsl x73[0]? fun x74 x75 => need (O.R 0 70 [V.sl x40 (bareL x41), V.sl x74
 (bareL x75)]) fun x76 => asTup (some x76) fun x77 => PI.asBool x77[0]? fun x78 => bif !x78 then some (V.tup [V.bool false]) else need (O.R 0 68 [V.sl y3 y4]) fun x79 => asTup (some x79) fun x80 =>
 asOsl x80[0]? fun x81 x82 => need (O.R 0 71 [V.sl x44 x45, V.sl x81 x82]) fun x83 => asTup (some x83) fun x84 => PI.asBool x84[0]? fun x85 => bif !x85 then some (V.tup [V.bool false]) else need (O.R 0
 31 [V.agg [V.int .i64 y6, V.int .i64 y7, V.sl y8 y9, V.sl y10 y11, V.sl y12 y13]]) fun x86 => asTup (some x86) fun x87 => PI.asInt .i64 x87[0]? fun x88 => PI.asInt .i64 x87[1]? fun x89 => asOsl
 x87[2]? fun x90 x91 => asOsl x87[3]? fun x92 x93 => asOsl x87[4]? fun x94 x95 => need (O.R 0 35 [V.agg [V.int .i64 x48, V.int .i64 x49, V.sl x50 x51, V.sl x52 x53, V.sl x54 x55], V.agg [V.int .i64
 x88, V.int .i64 x89, V.sl x90 x91, V.sl x92 x93, V.sl x94 x95]]) fun x96 => asTup (some x96) fun x97 => PI.asBool x97[0]? fun x98 => bif !x98 then some (V.tup [V.bool false]) else need (O.W 0 72 [0]
 [V.ref 0, V.int .i64 1] [Ob.nrow [] 22 x40 x41]) fun x99 => asTup (some x99) fun x100 => PI.asInt .i64 x100[0]? fun x101 => asOsl x100[1]? fun x102 x103 => need (O.W 0 73 [0] [V.ref 0, V.int .i64
 x101] [Ob.row 2 x44 x45 false]) fun x104 => asTup (some x104) fun x105 => PI.asInt .i64 x105[0]? fun x106 => asOsl x105[1]? fun x107 x108 => need (O.W 0 37 [0, 1, 2] [V.agg [V.int .i64 x48, V.int .i64
 x49, V.ref 0, V.ref 1, V.ref 2], V.int .i64 x106] [Ob.row 5 x50 x51 false, Ob.row 5 x52 x53 false, Ob.row 5 x54 x55 false]) fun x109 => asTup (some x109) fun x110 => PI.asInt .i64 x110[0]? fun x111 =>
 asOsl x110[1]? fun x112 x113 => asOsl x110[2]? fun x114 x115 => asOsl x110[3]? fun x116 x117 => bif decide (x111 < 0) then some (V.tup [V.bool false]) else need (O.R 0 69 [V.agg [V.int .i64 x58, V.int
 .i64 x59, V.int .i64 x60, V.sl x61 x62, V.sl x63 x64, V.sl x65 x66, V.sl x67 (bareL x68)], V.agg [V.int .i64 x27, V.int .i64 x28, V.int .i64 x29, V.sl x30 x31, V.sl x32 x33, V.sl x34 x35, V.sl x36
 (bareL x37)]]) fun x118 => asTup (some x118) fun x119 => PI.asBool x119[0]? fun x120 => bif !x120 then some (V.tup [V.bool false]) else need (O.W 0 74 [0, 1, 2, 3] [V.agg [V.int .i64 x58, V.int .i64
 x59, V.int .i64 x60, V.ref 0, V.ref 1, V.ref 2, V.ref 3], V.int .i64 1] [Ob.row 5 x61 x62 false, Ob.row 5 x63 x64 false, Ob.row 5 x65 x66 false, Ob.nrow [] 195 x67 x68]) fun x121 => asTup (some x121)
 fun x122 => PI.asInt .i64 x122[0]? fun x123 => asOsl x122[1]? fun x124 x125 => asOsl x122[2]? fun x126 x127 => asOsl x122[3]? fun x128 x129 => asOsl x122[4]? fun x130 x131 => need (O.R 0 75 [V.agg
 [V.int .i64 x58, V.int .i64 x59, V.int .i64 x60, V.sl x124 x125, V.sl x126 x127, V.sl x128 x129, V.sl x130 (bareL x131)], V.int .i64 1]) fun x132 => asTup (some x132) fun x133 => PI.asInt .i64
 x133[0]? fun x134 => bif decide (x134 < 0) then some (V.tup [V.bool false]) else bif x134 != x123 then some (V.tup [V.bool false]) else need (O.R 0 67 [V.sl y1 y2]) fun x135 => asTup (some x135) fun
 x136 => asOsl x136[0]? fun x137 x138 => need (O.R 0 68 [V.sl y3 y4]) fun x139 => asTup (some x139) fun x140 => asOsl x140[0]? fun x141 x142 => need (O.R 0 31 [V.agg [V.int .i64 y6, V.int .i64 y7, V.sl
 y8 y9, V.sl y10 y11, V.sl y12 y13]]) fun x143 => asTup (some x143) fun x144 => PI.asInt .i64 x144[0]? fun x145 => PI.asInt .i64 x144[1]? fun x146 => asOsl x144[2]? fun x147 x148 => asOsl x144[3]? fun
 x149 x150 => asOsl x144[4]? fun x151 x152 => need (O.R 0 51 [V.sl x137 (bareL x138), V.sl x141 x142, V.int .i64 y5, V.agg [V.int .i64 x145, V.int .i64 x146, V.sl x147 x148, V.sl x149 x150, V.sl x151
 x152]]) fun x153 => asTup (some x153) fun x154 => PI.asInt .i64 x154[0]? fun x155 => PI.asInt .i64 x154[1]? fun x156 => PI.asInt .i64 x154[2]? fun x157 => asOsl x154[3]? fun x158 x159 => asOsl
 x154[4]? fun x160 x161 => asOsl x154[5]? fun x162 x163 => asOsl x154[6]? fun x164 x165 => need (O.R 0 69 [V.agg [V.int .i64 x155, V.int .i64 x156, V.int .i64 x157, V.sl x158 x159, V.sl x160 x161, V.sl
 x162 x163, V.sl x164 (bareL x165)], V.agg [V.int .i64 x27, V.int .i64 x28, V.int .i64 x29, V.sl x30 x31, V.sl x32 x33, V.sl x34 x35, V.sl x36 (bareL x37)]]) fun x166 => asTup (some x166) fun x167 =>
 PI.asBool x167[0]? fun x168 => bif !x168 then some (V.tup [V.bool false]) else need (O.R 0 75 [V.agg [V.int .i64 x58, V.int .i64 x59, V.int .i64 x60, V.sl x124 x125, V.sl x126 x127, V.sl x128 x129,
 V.sl x130 (bareL x131)], V.int .i64 1]) fun x169 => asTup (some x169) fun x170 => PI.asInt .i64 x170[0]? fun x171 => bif decide (x171 < 0) then some (V.tup [V.bool false]) else bif x171 != x123 then
 some (V.tup [V.bool false]) else some (V.tup [V.bool true])
theorem e9 (k m q0 q1 : Nat) (y1 : Nat) (y2 : List V) (y3 : Nat) (y4 : List V) (y5 : Int) (y6 : Int) (y7 : Int) (y8 : Nat) (y9 : List V) (y10 : Nat) (y11 : List V) (y12 : Nat) (y13 : List V) : runV C
 (k + 1) 9 [V.sl y1 y2, V.sl y3 y4, V.int .i64 y5, V.agg [V.int .i64 y6, V.int .i64 y7, V.sl y8 y9, V.sl y10 y11, V.sl y12 y13]] = T9 (orc C k) k m q0 q1 y1 y2 y3 y4 y5 y6 y7 y8 y9 y10 y11 y12 y13 :=
 by kernel_rfl
theorem E9 (y1 : Nat) (y2 : List V) (y3 : Nat) (y4 : List V) (y5 : Int) (y6 : Int) (y7 : Int) (y8 : Nat) (y9 : List V) (y10 : Nat) (y11 : List V) (y12 : Nat) (y13 : List V) {r : V} (h : T9 (orcE C) 0 0
 0 0 y1 y2 y3 y4 y5 y6 y7 y8 y9 y10 y11 y12 y13 = some r) : runE C 9 [V.sl y1 y2, V.sl y3 y4, V.int .i64 y5, V.agg [V.int .i64 y6, V.int .i64 y7, V.sl y8 y9, V.sl y10 y11, V.sl y12 y13]] = some r :=
 ofR (F := fun s => T9 (orc C s.k) s.k s.m 0 0 y1 y2 y3 y4 y5 y6 y7 y8 y9 y10 y11 y12 y13) (fun k => e9 k k 0 0 y1 y2 y3 y4 y5 y6 y7 y8 y9 y10 y11 y12 y13) (by
  unfold T9
  repeat' first | with_reducible exact cC | with_reducible refine cN cR fun _ => ?_ | with_reducible refine cN cQ fun _ => ?_ | with_reducible refine cT fun _ => ?_ | with_reducible refine cI fun _ => ?_ | with_reducible refine cF ?_ ?_ | with_reducible refine cB fun _ => ?_ | with_reducible refine cO fun _ _ => ?_ | with_reducible refine cN cC fun _ => ?_ | with_reducible exact cR | with_reducible exact cQ) h

noncomputable def T66 (O : Orc) (k m q0 q1 : Nat) (y1 : Nat) (y2 : List V) (y3 : Int) : Option V := bif decide (IntKind.i64.wrap (y3 - (↑y1 : Int)) < 0) then some (V.tup [V.int .i64 (-1)]) else O.L 0
 66 0 [true, true, true, false, true] [] k [(0, V.sl y1 y2), (1, V.int .i64 (IntKind.i64.wrap (y3 - (↑y1 : Int)))), (5, V.int .i64 0)] []
theorem e66 (k m q0 q1 : Nat) (y1 : Nat) (y2 : List V) (y3 : Int) : runV C (k + 1) 66 [V.sl y1 y2, V.int .i64 y3] = T66 (orc C k) k m q0 q1 y1 y2 y3 := by kernel_rfl
theorem E66 (y1 : Nat) (y2 : List V) (y3 : Int) {r : V} (h : T66 (orcE C) 0 0 0 0 y1 y2 y3 = some r) : runE C 66 [V.sl y1 y2, V.int .i64 y3] = some r := ofR (F := fun s => T66 (orc C s.k) s.k s.m 0 0
 y1 y2 y3) (fun k => e66 k k 0 0 y1 y2 y3) (by
  unfold T66
  repeat' first | with_reducible exact cC | with_reducible refine cF ?_ ?_ | exact cD0 gK) h

noncomputable def T28 (O : Orc) (k m q0 q1 : Nat) (y1 : Int) (y2 : Int) (y3 : Nat) (y4 : List V) (y5 : Nat) (y6 : List V) (y7 : Nat) (y8 : List V) (y9 : Int) : Option V := need (O.R 0 115 [V.sl y3 y4,
 V.int .i64 y9]) fun x1 => asTup (some x1) fun x2 => PI.asInt .i64 x2[0]? fun x3 => bif decide (x3 < 0) then some (V.tup [V.int .i64 (-1)]) else need (O.R 0 115 [V.sl y5 y6, V.int .i64 x3]) fun x4 =>
 asTup (some x4) fun x5 => PI.asInt .i64 x5[0]? fun x6 => bif decide (x6 < 0) then some (V.tup [V.int .i64 (-1)]) else need (O.R 0 115 [V.sl y7 y8, V.int .i64 x6]) fun x7 => asTup (some x7) fun x8 =>
 PI.asInt .i64 x8[0]? fun x9 => bif decide (x9 < 0) then some (V.tup [V.int .i64 (-1)]) else some (V.tup [V.int .i64 x9])
theorem e28 (k m q0 q1 : Nat) (y1 : Int) (y2 : Int) (y3 : Nat) (y4 : List V) (y5 : Nat) (y6 : List V) (y7 : Nat) (y8 : List V) (y9 : Int) : runV C (k + 1) 28 [V.agg [V.int .i64 y1, V.int .i64 y2, V.sl
 y3 y4, V.sl y5 y6, V.sl y7 y8], V.int .i64 y9] = T28 (orc C k) k m q0 q1 y1 y2 y3 y4 y5 y6 y7 y8 y9 := by kernel_rfl
theorem E28 (y1 : Int) (y2 : Int) (y3 : Nat) (y4 : List V) (y5 : Nat) (y6 : List V) (y7 : Nat) (y8 : List V) (y9 : Int) {r : V} (h : T28 (orcE C) 0 0 0 0 y1 y2 y3 y4 y5 y6 y7 y8 y9 = some r) : runE C
 28 [V.agg [V.int .i64 y1, V.int .i64 y2, V.sl y3 y4, V.sl y5 y6, V.sl y7 y8], V.int .i64 y9] = some r := ofR (F := fun s => T28 (orc C s.k) s.k s.m 0 0 y1 y2 y3 y4 y5 y6 y7 y8 y9) (fun k => e28 k k 0
 0 y1 y2 y3 y4 y5 y6 y7 y8 y9) (by
  unfold T28
  repeat' first | with_reducible exact cC | with_reducible refine cN cR fun _ => ?_ | with_reducible refine cT fun _ => ?_ | with_reducible refine cI fun _ => ?_ | with_reducible refine cF ?_ ?_ | with_reducible refine cN cC fun _ => ?_ | with_reducible exact cR) h

noncomputable def T67 (O : Orc) (k m q0 q1 : Nat) (y1 : Nat) (y2 : List V) : Option V := must (decide ((↑y1 : Int) = (↑y1 : Int)) && decide (0 ≤ (↑y1 : Int)) && decide ((↑y1 : Int) ≤ 140737488355328)
 && decide ((↑y1 : Int) * 24 ≤ 140737488355328)) (O.L 0 67 0 [true, true, false, true] [] k [(0, V.sl y1 y2), (3, V.ref 0), (4, V.int .i64 0)] [Ob.nrow [] 22 (↑y1 : Int).toNat (reps (↑y1 : Int).toNat
 [V.nilsl])])
theorem e67 (k m q0 q1 : Nat) (y1 : Nat) (y2 : List V) : runV C (k + 1) 67 [V.sl y1 y2] = T67 (orc C k) k m q0 q1 y1 y2 := by kernel_rfl
theorem E67 (y1 : Nat) (y2 : List V) {r : V} (h : T67 (orcE C) 0 0 0 0 y1 y2 = some r) : runE C 67 [V.sl y1 y2] = some r := ofR (F := fun s => T67 (orc C s.k) s.k s.m 0 0 y1 y2) (fun k => e67 k k 0 0
 y1 y2) (by
  unfold T67
  repeat' first | with_reducible exact cC | with_reducible refine cM ?_ | exact cD0 gK) h

noncomputable def T68 (O : Orc) (k m q0 q1 : Nat) (y1 : Nat) (y2 : List V) : Option V := must (decide ((↑y1 : Int) = (↑y1 : Int)) && decide (0 ≤ (↑y1 : Int)) && decide ((↑y1 : Int) ≤ 140737488355328)
 && decide ((↑y1 : Int) * 8 ≤ 140737488355328)) (O.L 0 68 0 [true, true, false, true] [] k [(0, V.sl y1 y2), (3, V.ref 0), (4, V.int .i64 0)] [Ob.row 2 (↑y1 : Int).toNat (reps (↑y1 : Int).toNat [V.int
 .i64 0]) false])
theorem e68 (k m q0 q1 : Nat) (y1 : Nat) (y2 : List V) : runV C (k + 1) 68 [V.sl y1 y2] = T68 (orc C k) k m q0 q1 y1 y2 := by kernel_rfl
theorem E68 (y1 : Nat) (y2 : List V) {r : V} (h : T68 (orcE C) 0 0 0 0 y1 y2 = some r) : runE C 68 [V.sl y1 y2] = some r := ofR (F := fun s => T68 (orc C s.k) s.k s.m 0 0 y1 y2) (fun k => e68 k k 0 0
 y1 y2) (by
  unfold T68
  repeat' first | with_reducible exact cC | with_reducible refine cM ?_ | exact cD0 gK) h

noncomputable def T31 (O : Orc) (k m q0 q1 : Nat) (y1 : Int) (y2 : Int) (y3 : Nat) (y4 : List V) (y5 : Nat) (y6 : List V) (y7 : Nat) (y8 : List V) : Option V := need (O.R 0 119 [V.sl y3 y4]) fun x1 =>
 asTup (some x1) fun x2 => asOsl x2[0]? fun x3 x4 => need (O.R 0 119 [V.sl y5 y6]) fun x5 => asTup (some x5) fun x6 => asOsl x6[0]? fun x7 x8 => need (O.R 0 119 [V.sl y7 y8]) fun x9 => asTup (some x9)
 fun x10 => asOsl x10[0]? fun x11 x12 => must (false || x4.all flatV) (must (false || x8.all flatV) (must (false || x12.all flatV) (some (V.tup [V.int .i64 y1, V.int .i64 y2, V.osl x3 x4, V.osl x7 x8,
 V.osl x11 x12]))))
theorem e31 (k m q0 q1 : Nat) (y1 : Int) (y2 : Int) (y3 : Nat) (y4 : List V) (y5 : Nat) (y6 : List V) (y7 : Nat) (y8 : List V) : runV C (k + 1) 31 [V.agg [V.int .i64 y1, V.int .i64 y2, V.sl y3 y4, V.sl
 y5 y6, V.sl y7 y8]] = T31 (orc C k) k m q0 q1 y1 y2 y3 y4 y5 y6 y7 y8 := by kernel_rfl
theorem E31 (y1 : Int) (y2 : Int) (y3 : Nat) (y4 : List V) (y5 : Nat) (y6 : List V) (y7 : Nat) (y8 : List V) {r : V} (h : T31 (orcE C) 0 0 0 0 y1 y2 y3 y4 y5 y6 y7 y8 = some r) : runE C 31 [V.agg
 [V.int .i64 y1, V.int .i64 y2, V.sl y3 y4, V.sl y5 y6, V.sl y7 y8]] = some r := ofR (F := fun s => T31 (orc C s.k) s.k s.m 0 0 y1 y2 y3 y4 y5 y6 y7 y8) (fun k => e31 k k 0 0 y1 y2 y3 y4 y5 y6 y7 y8) (by
  unfold T31
  repeat' first | with_reducible exact cC | with_reducible refine cN cR fun _ => ?_ | with_reducible refine cT fun _ => ?_ | with_reducible refine cM ?_ | with_reducible refine cO fun _ _ => ?_ | with_reducible refine cN cC fun _ => ?_ | with_reducible exact cR) h

noncomputable def T52 (O : Orc) (k m q0 q1 : Nat) (y1 : Nat) (y2 : List V) (y3 : Nat) (y4 : List V) (y5 : Int) (y6 : Int) (y7 : Int) (y8 : Nat) (y9 : List V) (y10 : Nat) (y11 : List V) (y12 : Nat) (y13
 : List V) : Option V := need (O.R 0 143 [V.agg [V.int .i64 y6, V.int .i64 y7, V.sl y8 y9, V.sl y10 y11, V.sl y12 y13]]) fun x1 => asTup (some x1) fun x2 => PI.asInt .i64 x2[0]? fun x3 => bif x3 != 0
 then some (V.tup [V.int .i64 x3, V.int .i64 0, V.int .i64 0, V.osl 0 [], V.osl 0 [], V.osl 0 [], V.osl 0 []]) else bif decide ((↑y1 : Int) > 5) then some (V.tup [V.int .i64 2, V.int .i64 0, V.int .i64
 0, V.osl 0 [], V.osl 0 [], V.osl 0 [], V.osl 0 []]) else bif decide ((↑y3 : Int) > 5) then some (V.tup [V.int .i64 2, V.int .i64 0, V.int .i64 0, V.osl 0 [], V.osl 0 [], V.osl 0 [], V.osl 0 []]) else
 O.L 0 52 0 [true, true, true, false, true] [] k [(0, V.sl y1 y2), (1, V.sl y3 y4), (2, V.int .i64 y5), (7, V.ptr 0 0), (8, V.ptr 1 0), (10, V.int .i64 0)] [Ob.box 61 [V.int .i64 y6, V.int .i64 y7,
 V.sl y8 y9, V.sl y10 y11, V.sl y12 y13] false, Ob.box 98 [V.int .i64 0, V.int .i64 0, V.int .i64 0, V.ref 2, V.ref 3, V.ref 4, V.ref 5] false, Ob.row 5 0 [] false, Ob.row 5 0 [] false, Ob.row 5 0 []
 false, Ob.nrow [] 195 0 []]
theorem e52 (k m q0 q1 : Nat) (y1 : Nat) (y2 : List V) (y3 : Nat) (y4 : List V) (y5 : Int) (y6 : Int) (y7 : Int) (y8 : Nat) (y9 : List V) (y10 : Nat) (y11 : List V) (y12 : Nat) (y13 : List V) : runV C
 (k + 1) 52 [V.sl y1 y2, V.sl y3 y4, V.int .i64 y5, V.agg [V.int .i64 y6, V.int .i64 y7, V.sl y8 y9, V.sl y10 y11, V.sl y12 y13]] = T52 (orc C k) k m q0 q1 y1 y2 y3 y4 y5 y6 y7 y8 y9 y10 y11 y12 y13 :=
 by kernel_rfl
theorem E52 (y1 : Nat) (y2 : List V) (y3 : Nat) (y4 : List V) (y5 : Int) (y6 : Int) (y7 : Int) (y8 : Nat) (y9 : List V) (y10 : Nat) (y11 : List V) (y12 : Nat) (y13 : List V) {r : V} (h : T52 (orcE C) 0
 0 0 0 y1 y2 y3 y4 y5 y6 y7 y8 y9 y10 y11 y12 y13 = some r) : runE C 52 [V.sl y1 y2, V.sl y3 y4, V.int .i64 y5, V.agg [V.int .i64 y6, V.int .i64 y7, V.sl y8 y9, V.sl y10 y11, V.sl y12 y13]] = some r :=
 ofR (F := fun s => T52 (orc C s.k) s.k s.m 0 0 y1 y2 y3 y4 y5 y6 y7 y8 y9 y10 y11 y12 y13) (fun k => e52 k k 0 0 y1 y2 y3 y4 y5 y6 y7 y8 y9 y10 y11 y12 y13) (by
  unfold T52
  repeat' first | with_reducible exact cC | with_reducible refine cN cR fun _ => ?_ | with_reducible refine cT fun _ => ?_ | with_reducible refine cI fun _ => ?_ | with_reducible refine cF ?_ ?_ | with_reducible refine cN cC fun _ => ?_ | with_reducible exact cR | exact cD0 gK) h

noncomputable def T51 (O : Orc) (k m q0 q1 : Nat) (y1 : Nat) (y2 : List V) (y3 : Nat) (y4 : List V) (y5 : Int) (y6 : Int) (y7 : Int) (y8 : Nat) (y9 : List V) (y10 : Nat) (y11 : List V) (y12 : Nat) (y13
 : List V) : Option V := need (O.R 0 136 [V.agg [V.int .i64 y6, V.int .i64 y7, V.sl y8 y9, V.sl y10 y11, V.sl y12 y13]]) fun x1 => asTup (some x1) fun x2 => PI.asInt .i64 x2[0]? fun x3 => bif x3 != 0
 then some (V.tup [V.int .i64 x3, V.int .i64 0, V.int .i64 0, V.osl 0 [], V.osl 0 [], V.osl 0 [], V.osl 0 []]) else bif decide ((↑y1 : Int) > 5) then some (V.tup [V.int .i64 2, V.int .i64 0, V.int .i64
 0, V.osl 0 [], V.osl 0 [], V.osl 0 [], V.osl 0 []]) else bif decide ((↑y3 : Int) > 5) then some (V.tup [V.int .i64 2, V.int .i64 0, V.int .i64 0, V.osl 0 [], V.osl 0 [], V.osl 0 [], V.osl 0 []]) else
 need (O.R 0 137 [V.sl y1 y2, V.fn 138 []]) fun x4 => asTup (some x4) fun x5 => PI.asBool x5[0]? fun x6 => bif x6 then some (V.tup [V.int .i64 2, V.int .i64 0, V.int .i64 0, V.osl 0 [], V.osl 0 [],
 V.osl 0 [], V.osl 0 []]) else need (O.R 0 139 [V.int .i64 y5]) fun x7 => asTup (some x7) fun x8 => PI.asBool x8[0]? fun x9 => bif !x9 then some (V.tup [V.int .i64 3, V.int .i64 0, V.int .i64 0, V.osl
 0 [], V.osl 0 [], V.osl 0 [], V.osl 0 []]) else O.L 0 51 0 [true, true, true, true, false, true] [] k [(0, V.sl y1 y2), (1, V.sl y3 y4), (2, V.int .i64 y5), (7, V.ptr 0 0), (8, V.ptr 1 0), (38, V.sl
 y3 y4), (39, V.int .i64 (↑y3 : Int)), (40, V.int .i64 0)] [Ob.box 61 [V.int .i64 y6, V.int .i64 y7, V.sl y8 y9, V.sl y10 y11, V.sl y12 y13] false, Ob.box 98 [V.int .i64 0, V.int .i64 0, V.int .i64 0,
 V.ref 2, V.ref 3, V.ref 4, V.ref 5] false, Ob.row 5 0 [] false, Ob.row 5 0 [] false, Ob.row 5 0 [] false, Ob.nrow [] 195 0 []]
theorem e51 (k m q0 q1 : Nat) (y1 : Nat) (y2 : List V) (y3 : Nat) (y4 : List V) (y5 : Int) (y6 : Int) (y7 : Int) (y8 : Nat) (y9 : List V) (y10 : Nat) (y11 : List V) (y12 : Nat) (y13 : List V) : runV C
 (k + 1) 51 [V.sl y1 y2, V.sl y3 y4, V.int .i64 y5, V.agg [V.int .i64 y6, V.int .i64 y7, V.sl y8 y9, V.sl y10 y11, V.sl y12 y13]] = T51 (orc C k) k m q0 q1 y1 y2 y3 y4 y5 y6 y7 y8 y9 y10 y11 y12 y13 :=
 by kernel_rfl
theorem E51 (y1 : Nat) (y2 : List V) (y3 : Nat) (y4 : List V) (y5 : Int) (y6 : Int) (y7 : Int) (y8 : Nat) (y9 : List V) (y10 : Nat) (y11 : List V) (y12 : Nat) (y13 : List V) {r : V} (h : T51 (orcE C) 0
 0 0 0 y1 y2 y3 y4 y5 y6 y7 y8 y9 y10 y11 y12 y13 = some r) : runE C 51 [V.sl y1 y2, V.sl y3 y4, V.int .i64 y5, V.agg [V.int .i64 y6, V.int .i64 y7, V.sl y8 y9, V.sl y10 y11, V.sl y12 y13]] = some r :=
 ofR (F := fun s => T51 (orc C s.k) s.k s.m 0 0 y1 y2 y3 y4 y5 y6 y7 y8 y9 y10 y11 y12 y13) (fun k => e51 k k 0 0 y1 y2 y3 y4 y5 y6 y7 y8 y9 y10 y11 y12 y13) (by
  unfold T51
  repeat' first | with_reducible exact cC | with_reducible refine cN cR fun _ => ?_ | with_reducible refine cT fun _ => ?_ | with_reducible refine cI fun _ => ?_ | with_reducible refine cF ?_ ?_ | with_reducible refine cB fun _ => ?_ | with_reducible refine cN cC fun _ => ?_ | with_reducible exact cR | exact cD0 gK) h

noncomputable def T69 (O : Orc) (k m q0 q1 : Nat) (y1 : Int) (y2 : Int) (y3 : Int) (y4 : Nat) (y5 : List V) (y6 : Nat) (y7 : List V) (y8 : Nat) (y9 : List V) (y10 : Nat) (y11 : List V) (y12 : Int) (y13
 : Int) (y14 : Int) (y15 : Nat) (y16 : List V) (y17 : Nat) (y18 : List V) (y19 : Nat) (y20 : List V) (y21 : Nat) (y22 : List V) : Option V := bif y1 != y12 then some (V.tup [V.bool false]) else need
 (O.R 0 153 [V.agg [V.int .i64 y2, V.int .i64 y3, V.sl y4 y5, V.sl y6 y7, V.sl y8 y9, V.sl y10 y11], V.agg [V.int .i64 y13, V.int .i64 y14, V.sl y15 y16, V.sl y17 y18, V.sl y19 y20, V.sl y21 y22]]) fun
 x1 => asTup (some x1) fun x2 => PI.asBool x2[0]? fun x3 => bif !x3 then some (V.tup [V.bool false]) else some (V.tup [V.bool true])
theorem e69 (k m q0 q1 : Nat) (y1 : Int) (y2 : Int) (y3 : Int) (y4 : Nat) (y5 : List V) (y6 : Nat) (y7 : List V) (y8 : Nat) (y9 : List V) (y10 : Nat) (y11 : List V) (y12 : Int) (y13 : Int) (y14 : Int)
 (y15 : Nat) (y16 : List V) (y17 : Nat) (y18 : List V) (y19 : Nat) (y20 : List V) (y21 : Nat) (y22 : List V) : runV C (k + 1) 69 [V.agg [V.int .i64 y1, V.int .i64 y2, V.int .i64 y3, V.sl y4 y5, V.sl y6
 y7, V.sl y8 y9, V.sl y10 y11], V.agg [V.int .i64 y12, V.int .i64 y13, V.int .i64 y14, V.sl y15 y16, V.sl y17 y18, V.sl y19 y20, V.sl y21 y22]] = T69 (orc C k) k m q0 q1 y1 y2 y3 y4 y5 y6 y7 y8 y9 y10
 y11 y12 y13 y14 y15 y16 y17 y18 y19 y20 y21 y22 := by kernel_rfl
theorem E69 (y1 : Int) (y2 : Int) (y3 : Int) (y4 : Nat) (y5 : List V) (y6 : Nat) (y7 : List V) (y8 : Nat) (y9 : List V) (y10 : Nat) (y11 : List V) (y12 : Int) (y13 : Int) (y14 : Int) (y15 : Nat) (y16 :
 List V) (y17 : Nat) (y18 : List V) (y19 : Nat) (y20 : List V) (y21 : Nat) (y22 : List V) {r : V} (h : T69 (orcE C) 0 0 0 0 y1 y2 y3 y4 y5 y6 y7 y8 y9 y10 y11 y12 y13 y14 y15 y16 y17 y18 y19 y20 y21
 y22 = some r) : runE C 69 [V.agg [V.int .i64 y1, V.int .i64 y2, V.int .i64 y3, V.sl y4 y5, V.sl y6 y7, V.sl y8 y9, V.sl y10 y11], V.agg [V.int .i64 y12, V.int .i64 y13, V.int .i64 y14, V.sl y15 y16,
 V.sl y17 y18, V.sl y19 y20, V.sl y21 y22]] = some r := ofR (F := fun s => T69 (orc C s.k) s.k s.m 0 0 y1 y2 y3 y4 y5 y6 y7 y8 y9 y10 y11 y12 y13 y14 y15 y16 y17 y18 y19 y20 y21 y22) (fun k => e69 k k
 0 0 y1 y2 y3 y4 y5 y6 y7 y8 y9 y10 y11 y12 y13 y14 y15 y16 y17 y18 y19 y20 y21 y22) (by
  unfold T69
  repeat' first | with_reducible exact cC | with_reducible refine cN cR fun _ => ?_ | with_reducible refine cT fun _ => ?_ | with_reducible refine cF ?_ ?_ | with_reducible refine cB fun _ => ?_ | with_reducible refine cN cC fun _ => ?_ | with_reducible exact cR) h

noncomputable def T70 (O : Orc) (k m q0 q1 : Nat) (y1 : Nat) (y2 : List V) (y3 : Nat) (y4 : List V) : Option V := bif (↑y1 : Int) != (↑y3 : Int) then some (V.tup [V.bool false]) else O.L 0 70 0 [true,
 true, false, true] [] k [(0, V.sl y1 y2), (1, V.sl y3 y4), (5, V.int .i64 0)] []
theorem e70 (k m q0 q1 : Nat) (y1 : Nat) (y2 : List V) (y3 : Nat) (y4 : List V) : runV C (k + 1) 70 [V.sl y1 y2, V.sl y3 y4] = T70 (orc C k) k m q0 q1 y1 y2 y3 y4 := by kernel_rfl
theorem E70 (y1 : Nat) (y2 : List V) (y3 : Nat) (y4 : List V) {r : V} (h : T70 (orcE C) 0 0 0 0 y1 y2 y3 y4 = some r) : runE C 70 [V.sl y1 y2, V.sl y3 y4] = some r := ofR (F := fun s => T70 (orc C s.k)
 s.k s.m 0 0 y1 y2 y3 y4) (fun k => e70 k k 0 0 y1 y2 y3 y4) (by
  unfold T70
  repeat' first | with_reducible exact cC | with_reducible refine cF ?_ ?_ | exact cD0 gK) h

noncomputable def T71 (O : Orc) (k m q0 q1 : Nat) (y1 : Nat) (y2 : List V) (y3 : Nat) (y4 : List V) : Option V := bif (↑y1 : Int) != (↑y3 : Int) then some (V.tup [V.bool false]) else O.L 0 71 0 [true,
 true, false, true] [] k [(0, V.sl y1 y2), (1, V.sl y3 y4), (5, V.int .i64 0)] []
theorem e71 (k m q0 q1 : Nat) (y1 : Nat) (y2 : List V) (y3 : Nat) (y4 : List V) : runV C (k + 1) 71 [V.sl y1 y2, V.sl y3 y4] = T71 (orc C k) k m q0 q1 y1 y2 y3 y4 := by kernel_rfl
theorem E71 (y1 : Nat) (y2 : List V) (y3 : Nat) (y4 : List V) {r : V} (h : T71 (orcE C) 0 0 0 0 y1 y2 y3 y4 = some r) : runE C 71 [V.sl y1 y2, V.sl y3 y4] = some r := ofR (F := fun s => T71 (orc C s.k)
 s.k s.m 0 0 y1 y2 y3 y4) (fun k => e71 k k 0 0 y1 y2 y3 y4) (by
  unfold T71
  repeat' first | with_reducible exact cC | with_reducible refine cF ?_ ?_ | exact cD0 gK) h

noncomputable def T35 (O : Orc) (k m q0 q1 : Nat) (y1 : Int) (y2 : Int) (y3 : Nat) (y4 : List V) (y5 : Nat) (y6 : List V) (y7 : Nat) (y8 : List V) (y9 : Int) (y10 : Int) (y11 : Nat) (y12 : List V) (y13
 : Nat) (y14 : List V) (y15 : Nat) (y16 : List V) : Option V := bif y1 != y9 then some (V.tup [V.bool false]) else bif y2 != y10 then some (V.tup [V.bool false]) else need (O.R 0 123 [V.sl y3 y4, V.sl
 y11 y12]) fun x1 => asTup (some x1) fun x2 => PI.asBool x2[0]? fun x3 => bif !x3 then some (V.tup [V.bool false]) else need (O.R 0 123 [V.sl y5 y6, V.sl y13 y14]) fun x4 => asTup (some x4) fun x5 =>
 PI.asBool x5[0]? fun x6 => bif !x6 then some (V.tup [V.bool false]) else need (O.R 0 123 [V.sl y7 y8, V.sl y15 y16]) fun x7 => asTup (some x7) fun x8 => PI.asBool x8[0]? fun x9 => bif !x9 then some
 (V.tup [V.bool false]) else some (V.tup [V.bool true])
theorem e35 (k m q0 q1 : Nat) (y1 : Int) (y2 : Int) (y3 : Nat) (y4 : List V) (y5 : Nat) (y6 : List V) (y7 : Nat) (y8 : List V) (y9 : Int) (y10 : Int) (y11 : Nat) (y12 : List V) (y13 : Nat) (y14 : List
 V) (y15 : Nat) (y16 : List V) : runV C (k + 1) 35 [V.agg [V.int .i64 y1, V.int .i64 y2, V.sl y3 y4, V.sl y5 y6, V.sl y7 y8], V.agg [V.int .i64 y9, V.int .i64 y10, V.sl y11 y12, V.sl y13 y14, V.sl y15
 y16]] = T35 (orc C k) k m q0 q1 y1 y2 y3 y4 y5 y6 y7 y8 y9 y10 y11 y12 y13 y14 y15 y16 := by kernel_rfl
theorem E35 (y1 : Int) (y2 : Int) (y3 : Nat) (y4 : List V) (y5 : Nat) (y6 : List V) (y7 : Nat) (y8 : List V) (y9 : Int) (y10 : Int) (y11 : Nat) (y12 : List V) (y13 : Nat) (y14 : List V) (y15 : Nat)
 (y16 : List V) {r : V} (h : T35 (orcE C) 0 0 0 0 y1 y2 y3 y4 y5 y6 y7 y8 y9 y10 y11 y12 y13 y14 y15 y16 = some r) : runE C 35 [V.agg [V.int .i64 y1, V.int .i64 y2, V.sl y3 y4, V.sl y5 y6, V.sl y7 y8],
 V.agg [V.int .i64 y9, V.int .i64 y10, V.sl y11 y12, V.sl y13 y14, V.sl y15 y16]] = some r := ofR (F := fun s => T35 (orc C s.k) s.k s.m 0 0 y1 y2 y3 y4 y5 y6 y7 y8 y9 y10 y11 y12 y13 y14 y15 y16) (fun
 k => e35 k k 0 0 y1 y2 y3 y4 y5 y6 y7 y8 y9 y10 y11 y12 y13 y14 y15 y16) (by
  unfold T35
  repeat' first | with_reducible exact cC | with_reducible refine cN cR fun _ => ?_ | with_reducible refine cT fun _ => ?_ | with_reducible refine cF ?_ ?_ | with_reducible refine cB fun _ => ?_ | with_reducible refine cN cC fun _ => ?_ | with_reducible exact cR) h

noncomputable def T72 (O : Orc) (k m q0 q1 : Nat) (y1 : Int) (y2 : Nat) (y3 : List V) : Option V := O.X 0 72 [0] [Ob.nrow [] 22 0 []] 0 [true, false, true] [] k [(0, V.ref 0), (1, V.int .i64 y1), (5,
 V.int .i64 0)] [Ob.nrow [] 22 y2 y3]
theorem e72 (k m q0 q1 : Nat) (y1 : Int) (y2 : Nat) (y3 : List V) : runW C (k + 1) 72 [0] [V.ref 0, V.int .i64 y1] [Ob.nrow [] 22 y2 y3] = T72 (orc C k) k m q0 q1 y1 y2 y3 := by kernel_rfl
theorem E72 (y1 : Int) (y2 : Nat) (y3 : List V) {r : V} (h : T72 (orcE C) 0 0 0 0 y1 y2 y3 = some r) : runWE C 72 [0] [V.ref 0, V.int .i64 y1] [Ob.nrow [] 22 y2 y3] = some r := ofW (F := fun s => T72
 (orc C s.k) s.k s.m 0 0 y1 y2 y3) (fun k => e72 k k 0 0 y1 y2 y3) (by
  unfold T72
  repeat' first | with_reducible exact cC | exact cX0 gK) h

noncomputable def T73 (O : Orc) (k m q0 q1 : Nat) (y1 : Int) (y2 : Nat) (y3 : List V) : Option V := O.X 0 73 [0] [Ob.row 2 0 [] false] 0 [true, false, true] [] k [(0, V.ref 0), (1, V.int .i64 y1), (5,
 V.int .i64 0)] [Ob.row 2 y2 y3 false]
theorem e73 (k m q0 q1 : Nat) (y1 : Int) (y2 : Nat) (y3 : List V) : runW C (k + 1) 73 [0] [V.ref 0, V.int .i64 y1] [Ob.row 2 y2 y3 false] = T73 (orc C k) k m q0 q1 y1 y2 y3 := by kernel_rfl
theorem E73 (y1 : Int) (y2 : Nat) (y3 : List V) {r : V} (h : T73 (orcE C) 0 0 0 0 y1 y2 y3 = some r) : runWE C 73 [0] [V.ref 0, V.int .i64 y1] [Ob.row 2 y2 y3 false] = some r := ofW (F := fun s => T73
 (orc C s.k) s.k s.m 0 0 y1 y2 y3) (fun k => e73 k k 0 0 y1 y2 y3) (by
  unfold T73
  repeat' first | with_reducible exact cC | exact cX0 gK) h

noncomputable def T37 (O : Orc) (k m q0 q1 : Nat) (y1 : Int) (y2 : Int) (y3 : Int) (y4 : Nat) (y5 : List V) (y6 : Nat) (y7 : List V) (y8 : Nat) (y9 : List V) : Option V := need (O.W 0 125 [0] [V.ref 0,
 V.int .i64 y3] [Ob.row 5 y4 y5 false]) fun x1 => asTup (some x1) fun x2 => PI.asInt .i64 x2[0]? fun x3 => asOsl x2[1]? fun x4 x5 => need (O.W 0 125 [0] [V.ref 0, V.int .i64 x3] [Ob.row 5 y6 y7 false])
 fun x6 => asTup (some x6) fun x7 => PI.asInt .i64 x7[0]? fun x8 => asOsl x7[1]? fun x9 x10 => need (O.W 0 125 [0] [V.ref 0, V.int .i64 x8] [Ob.row 5 y8 y9 false]) fun x11 => asTup (some x11) fun x12
 => PI.asInt .i64 x12[0]? fun x13 => asOsl x12[1]? fun x14 x15 => must (false || x5.all flatV) (must (false || x10.all flatV) (must (false || x15.all flatV) (some (V.tup [V.int .i64 x13, V.osl x4 x5,
 V.osl x9 x10, V.osl x14 x15]))))
theorem e37 (k m q0 q1 : Nat) (y1 : Int) (y2 : Int) (y3 : Int) (y4 : Nat) (y5 : List V) (y6 : Nat) (y7 : List V) (y8 : Nat) (y9 : List V) : runW C (k + 1) 37 [0, 1, 2] [V.agg [V.int .i64 y1, V.int .i64
 y2, V.ref 0, V.ref 1, V.ref 2], V.int .i64 y3] [Ob.row 5 y4 y5 false, Ob.row 5 y6 y7 false, Ob.row 5 y8 y9 false] = T37 (orc C k) k m q0 q1 y1 y2 y3 y4 y5 y6 y7 y8 y9 := by kernel_rfl
theorem E37 (y1 : Int) (y2 : Int) (y3 : Int) (y4 : Nat) (y5 : List V) (y6 : Nat) (y7 : List V) (y8 : Nat) (y9 : List V) {r : V} (h : T37 (orcE C) 0 0 0 0 y1 y2 y3 y4 y5 y6 y7 y8 y9 = some r) : runWE C
 37 [0, 1, 2] [V.agg [V.int .i64 y1, V.int .i64 y2, V.ref 0, V.ref 1, V.ref 2], V.int .i64 y3] [Ob.row 5 y4 y5 false, Ob.row 5 y6 y7 false, Ob.row 5 y8 y9 false] = some r := ofW (F := fun s => T37 (orc
 C s.k) s.k s.m 0 0 y1 y2 y3 y4 y5 y6 y7 y8 y9) (fun k => e37 k k 0 0 y1 y2 y3 y4 y5 y6 y7 y8 y9) (by
  unfold T37
  repeat' first | with_reducible exact cC | with_reducible refine cN cQ fun _ => ?_ | with_reducible refine cT fun _ => ?_ | with_reducible refine cI fun _ => ?_ | with_reducible refine cM ?_ | with_reducible refine cO fun _ _ => ?_ | with_reducible refine cN cC fun _ => ?_ | with_reducible exact cQ) h

noncomputable def T74 (O : Orc) (k m q0 q1 : Nat) (y1 : Int) (y2 : Int) (y3 : Int) (y4 : Int) (y5 : Nat) (y6 : List V) (y7 : Nat) (y8 : List V) (y9 : Nat) (y10 : List V) (y11 : Nat) (y12 : List V) :
 Option V := need (O.W 0 154 [0, 1, 2, 3] [V.agg [V.int .i64 y2, V.int .i64 y3, V.ref 0, V.ref 1, V.ref 2, V.ref 3], V.int .i64 y4] [Ob.row 5 y5 y6 false, Ob.row 5 y7 y8 false, Ob.row 5 y9 y10 false,
 Ob.nrow [] 195 y11 y12]) fun x1 => asTup (some x1) fun x2 => PI.asInt .i64 x2[0]? fun x3 => asOsl x2[1]? fun x4 x5 => asOsl x2[2]? fun x6 x7 => asOsl x2[3]? fun x8 x9 => asOsl x2[4]? fun x10 x11 =>
 must (false || x5.all flatV) (must (false || x7.all flatV) (must (false || x9.all flatV) (some (V.tup [V.int .i64 x3, V.osl x4 x5, V.osl x6 x7, V.osl x8 x9, V.osl x10 x11]))))
theorem e74 (k m q0 q1 : Nat) (y1 : Int) (y2 : Int) (y3 : Int) (y4 : Int) (y5 : Nat) (y6 : List V) (y7 : Nat) (y8 : List V) (y9 : Nat) (y10 : List V) (y11 : Nat) (y12 : List V) : runW C (k + 1) 74 [0,
 1, 2, 3] [V.agg [V.int .i64 y1, V.int .i64 y2, V.int .i64 y3, V.ref 0, V.ref 1, V.ref 2, V.ref 3], V.int .i64 y4] [Ob.row 5 y5 y6 false, Ob.row 5 y7 y8 false, Ob.row 5 y9 y10 false, Ob.nrow [] 195 y11
 y12] = T74 (orc C k) k m q0 q1 y1 y2 y3 y4 y5 y6 y7 y8 y9 y10 y11 y12 := by kernel_rfl
theorem E74 (y1 : Int) (y2 : Int) (y3 : Int) (y4 : Int) (y5 : Nat) (y6 : List V) (y7 : Nat) (y8 : List V) (y9 : Nat) (y10 : List V) (y11 : Nat) (y12 : List V) {r : V} (h : T74 (orcE C) 0 0 0 0 y1 y2 y3
 y4 y5 y6 y7 y8 y9 y10 y11 y12 = some r) : runWE C 74 [0, 1, 2, 3] [V.agg [V.int .i64 y1, V.int .i64 y2, V.int .i64 y3, V.ref 0, V.ref 1, V.ref 2, V.ref 3], V.int .i64 y4] [Ob.row 5 y5 y6 false, Ob.row
 5 y7 y8 false, Ob.row 5 y9 y10 false, Ob.nrow [] 195 y11 y12] = some r := ofW (F := fun s => T74 (orc C s.k) s.k s.m 0 0 y1 y2 y3 y4 y5 y6 y7 y8 y9 y10 y11 y12) (fun k => e74 k k 0 0 y1 y2 y3 y4 y5 y6
 y7 y8 y9 y10 y11 y12) (by
  unfold T74
  repeat' first | with_reducible exact cC | with_reducible refine cN cQ fun _ => ?_ | with_reducible refine cT fun _ => ?_ | with_reducible refine cI fun _ => ?_ | with_reducible refine cM ?_ | with_reducible refine cO fun _ _ => ?_ | with_reducible refine cN cC fun _ => ?_ | with_reducible exact cQ) h

noncomputable def T75 (O : Orc) (k m q0 q1 : Nat) (y1 : Int) (y2 : Int) (y3 : Int) (y4 : Nat) (y5 : List V) (y6 : Nat) (y7 : List V) (y8 : Nat) (y9 : List V) (y10 : Nat) (y11 : List V) (y12 : Int) :
 Option V := need (O.R 0 155 [V.agg [V.int .i64 y2, V.int .i64 y3, V.sl y4 y5, V.sl y6 y7, V.sl y8 y9, V.sl y10 y11], V.int .i64 y12]) fun x1 => asTup (some x1) fun x2 => PI.asInt .i64 x2[0]? fun x3 =>
 bif decide (x3 < 0) then some (V.tup [V.int .i64 (-1)]) else some (V.tup [V.int .i64 x3])
theorem e75 (k m q0 q1 : Nat) (y1 : Int) (y2 : Int) (y3 : Int) (y4 : Nat) (y5 : List V) (y6 : Nat) (y7 : List V) (y8 : Nat) (y9 : List V) (y10 : Nat) (y11 : List V) (y12 : Int) : runV C (k + 1) 75
 [V.agg [V.int .i64 y1, V.int .i64 y2, V.int .i64 y3, V.sl y4 y5, V.sl y6 y7, V.sl y8 y9, V.sl y10 y11], V.int .i64 y12] = T75 (orc C k) k m q0 q1 y1 y2 y3 y4 y5 y6 y7 y8 y9 y10 y11 y12 := by
 kernel_rfl
theorem E75 (y1 : Int) (y2 : Int) (y3 : Int) (y4 : Nat) (y5 : List V) (y6 : Nat) (y7 : List V) (y8 : Nat) (y9 : List V) (y10 : Nat) (y11 : List V) (y12 : Int) {r : V} (h : T75 (orcE C) 0 0 0 0 y1 y2 y3
 y4 y5 y6 y7 y8 y9 y10 y11 y12 = some r) : runE C 75 [V.agg [V.int .i64 y1, V.int .i64 y2, V.int .i64 y3, V.sl y4 y5, V.sl y6 y7, V.sl y8 y9, V.sl y10 y11], V.int .i64 y12] = some r := ofR (F := fun s
 => T75 (orc C s.k) s.k s.m 0 0 y1 y2 y3 y4 y5 y6 y7 y8 y9 y10 y11 y12) (fun k => e75 k k 0 0 y1 y2 y3 y4 y5 y6 y7 y8 y9 y10 y11 y12) (by
  unfold T75
  repeat' first | with_reducible exact cC | with_reducible refine cN cR fun _ => ?_ | with_reducible refine cT fun _ => ?_ | with_reducible refine cI fun _ => ?_ | with_reducible refine cF ?_ ?_ | with_reducible refine cN cC fun _ => ?_ | with_reducible exact cR) h

noncomputable def T66l1 (O : Orc) (k m q0 q1 : Nat) (y1 : Nat) (y2 : List V) (y3 : Int) (y4 : Int) : Option V := bif decide (y4 < (↑y1 : Int)) then must (inB y4 y1) (must (decide (y4.toNat * 1 <
 y2.length)) (asSl y2[y4.toNat * 1]? fun x1 x2 => need (O.R 0 115 [V.sl x1 x2, V.int .i64 y3]) fun x3 => asTup (some x3) fun x4 => PI.asInt .i64 x4[0]? fun x5 => bif decide (x5 < 0) then some (V.tup
 [V.int .i64 (-1)]) else O.L 0 66 0 [true, true, true, false, true] [] m [(0, V.sl y1 y2), (1, V.int .i64 x5), (5, V.int .i64 (IntKind.i64.wrap (y4 + 1)))] [])) else some (V.tup [V.int .i64 y3])
theorem e66l1 (k m q0 q1 : Nat) (y1 : Nat) (y2 : List V) (y3 : Int) (y4 : Int) : runL C k 66 0 [true, true, true, false, true] [] (m + 1) [(0, V.sl y1 y2), (1, V.int .i64 y3), (5, V.int .i64 y4)] [] =
 T66l1 (orc C k) k m q0 q1 y1 y2 y3 y4 := by kernel_rfl
theorem E66l1 (y1 : Nat) (y2 : List V) (y3 : Int) (y4 : Int) {r : V} (h : T66l1 (orcE C) 0 0 0 0 y1 y2 y3 y4 = some r) : loopE C 66 0 [true, true, true, false, true] [] [(0, V.sl y1 y2), (1, V.int .i64
 y3), (5, V.int .i64 y4)] [] = some r := ofL (j := 0) (F := fun s => T66l1 (orc C s.k) s.k s.m 0 0 y1 y2 y3 y4) (fs0 fun k m => e66l1 k m 0 0 y1 y2 y3 y4) (by
  unfold T66l1
  repeat' first | with_reducible exact cC | with_reducible refine cN cR fun _ => ?_ | with_reducible refine cT fun _ => ?_ | with_reducible refine cI fun _ => ?_ | with_reducible refine cM ?_ | with_reducible refine cF ?_ ?_ | with_reducible refine cL fun _ _ => ?_ | with_reducible refine cN cC fun _ => ?_ | with_reducible exact cR | exact cD0 gM) h

noncomputable def T115 (O : Orc) (k m q0 q1 : Nat) (y1 : Nat) (y2 : List V) (y3 : Int) : Option V := bif decide (IntKind.i64.wrap (y3 - (↑y1 : Int)) < 0) then some (V.tup [V.int .i64 (-1)]) else some
 (V.tup [V.int .i64 (IntKind.i64.wrap (y3 - (↑y1 : Int)))])
theorem e115 (k m q0 q1 : Nat) (y1 : Nat) (y2 : List V) (y3 : Int) : runV C (k + 1) 115 [V.sl y1 y2, V.int .i64 y3] = T115 (orc C k) k m q0 q1 y1 y2 y3 := by kernel_rfl
theorem E115 (y1 : Nat) (y2 : List V) (y3 : Int) {r : V} (h : T115 (orcE C) 0 0 0 0 y1 y2 y3 = some r) : runE C 115 [V.sl y1 y2, V.int .i64 y3] = some r := ofR (F := fun s => T115 (orc C s.k) s.k s.m 0
 0 y1 y2 y3) (fun k => e115 k k 0 0 y1 y2 y3) (by
  unfold T115
  repeat' first | with_reducible exact cC | with_reducible refine cF ?_ ?_) h

noncomputable def T67l1 (O : Orc) (k m q0 q1 : Nat) (y1 : Nat) (y2 : List V) (y3 : Int) (y4 : Nat) (y5 : List V) : Option V := bif decide (y3 < (↑y1 : Int)) then must (inB y3 y1) (must (decide
 (y3.toNat * 1 < y2.length)) (asSl y2[y3.toNat * 1]? fun x1 x2 => need (O.R 0 119 [V.sl x1 x2]) fun x3 => asTup (some x3) fun x4 => asOsl x4[0]? fun x5 x6 => must (inB y3 y4) (must (x6.all flatV) (must
 ([V.own false 5 1 x5 x6].length.beq 1 && (y3.toNat * 1 + [V.own false 5 1 x5 x6].length).ble y5.length) (O.L 0 67 0 [true, true, false, true] [] m [(0, V.sl y1 y2), (3, V.ref 0), (4, V.int .i64
 (IntKind.i64.wrap (y3 + 1)))] [Ob.nrow [] 22 y4 (splice y5 (y3.toNat * 1) [V.own false 5 1 x5 x6])]))))) else some (V.tup [V.osl y4 y5])
theorem e67l1 (k m q0 q1 : Nat) (y1 : Nat) (y2 : List V) (y3 : Int) (y4 : Nat) (y5 : List V) : runL C k 67 0 [true, true, false, true] [] (m + 1) [(0, V.sl y1 y2), (3, V.ref 0), (4, V.int .i64 y3)]
 [Ob.nrow [] 22 y4 y5] = T67l1 (orc C k) k m q0 q1 y1 y2 y3 y4 y5 := by kernel_rfl
theorem E67l1 (y1 : Nat) (y2 : List V) (y3 : Int) (y4 : Nat) (y5 : List V) {r : V} (h : T67l1 (orcE C) 0 0 0 0 y1 y2 y3 y4 y5 = some r) : loopE C 67 0 [true, true, false, true] [] [(0, V.sl y1 y2), (3,
 V.ref 0), (4, V.int .i64 y3)] [Ob.nrow [] 22 y4 y5] = some r := ofL (j := 0) (F := fun s => T67l1 (orc C s.k) s.k s.m 0 0 y1 y2 y3 y4 y5) (fs0 fun k m => e67l1 k m 0 0 y1 y2 y3 y4 y5) (by
  unfold T67l1
  repeat' first | with_reducible exact cC | with_reducible refine cN cR fun _ => ?_ | with_reducible refine cT fun _ => ?_ | with_reducible refine cM ?_ | with_reducible refine cF ?_ ?_ | with_reducible refine cL fun _ _ => ?_ | with_reducible refine cO fun _ _ => ?_ | with_reducible refine cN cC fun _ => ?_ | with_reducible exact cR | exact cD0 gM) h

noncomputable def T68l1 (O : Orc) (k m q0 q1 : Nat) (y1 : Nat) (y2 : List V) (y3 : Int) (y4 : Nat) (y5 : List V) : Option V := bif decide (y3 < (↑y1 : Int)) then must (inB y3 y1) (PI.asInt .i64
 y2[y3.toNat * 1]? fun x1 => must (inB y3 y4) (must ([V.int .i64 x1].length.beq 1 && (y3.toNat * 1 + [V.int .i64 x1].length).ble y5.length) (O.L 0 68 0 [true, true, false, true] [] m [(0, V.sl y1 y2),
 (3, V.ref 0), (4, V.int .i64 (IntKind.i64.wrap (y3 + 1)))] [Ob.row 2 y4 (splice y5 (y3.toNat * 1) [V.int .i64 x1]) false]))) else must (false || y5.all flatV) (some (V.tup [V.osl y4 y5]))
theorem e68l1 (k m q0 q1 : Nat) (y1 : Nat) (y2 : List V) (y3 : Int) (y4 : Nat) (y5 : List V) : runL C k 68 0 [true, true, false, true] [] (m + 1) [(0, V.sl y1 y2), (3, V.ref 0), (4, V.int .i64 y3)]
 [Ob.row 2 y4 y5 false] = T68l1 (orc C k) k m q0 q1 y1 y2 y3 y4 y5 := by kernel_rfl
theorem E68l1 (y1 : Nat) (y2 : List V) (y3 : Int) (y4 : Nat) (y5 : List V) {r : V} (h : T68l1 (orcE C) 0 0 0 0 y1 y2 y3 y4 y5 = some r) : loopE C 68 0 [true, true, false, true] [] [(0, V.sl y1 y2), (3,
 V.ref 0), (4, V.int .i64 y3)] [Ob.row 2 y4 y5 false] = some r := ofL (j := 0) (F := fun s => T68l1 (orc C s.k) s.k s.m 0 0 y1 y2 y3 y4 y5) (fs0 fun k m => e68l1 k m 0 0 y1 y2 y3 y4 y5) (by
  unfold T68l1
  repeat' first | with_reducible exact cC | with_reducible refine cI fun _ => ?_ | with_reducible refine cM ?_ | with_reducible refine cF ?_ ?_ | exact cD0 gM) h

noncomputable def T119 (O : Orc) (k m q0 q1 : Nat) (y1 : Nat) (y2 : List V) : Option V := must (decide ((↑y1 : Int) = (↑y1 : Int)) && decide (0 ≤ (↑y1 : Int)) && decide ((↑y1 : Int) ≤ 140737488355328)
 && decide ((↑y1 : Int) * 1 ≤ 140737488355328)) (O.L 0 119 0 [true, true, false, true] [] k [(0, V.sl y1 y2), (3, V.ref 0), (4, V.int .i64 0)] [Ob.row 5 (↑y1 : Int).toNat (reps (↑y1 : Int).toNat [V.int
 .u8 0]) false])
theorem e119 (k m q0 q1 : Nat) (y1 : Nat) (y2 : List V) : runV C (k + 1) 119 [V.sl y1 y2] = T119 (orc C k) k m q0 q1 y1 y2 := by kernel_rfl
theorem E119 (y1 : Nat) (y2 : List V) {r : V} (h : T119 (orcE C) 0 0 0 0 y1 y2 = some r) : runE C 119 [V.sl y1 y2] = some r := ofR (F := fun s => T119 (orc C s.k) s.k s.m 0 0 y1 y2) (fun k => e119 k k
 0 0 y1 y2) (by
  unfold T119
  repeat' first | with_reducible exact cC | with_reducible refine cM ?_ | exact cD0 gK) h

noncomputable def T143 (O : Orc) (k m q0 q1 : Nat) (y1 : Int) (y2 : Int) (y3 : Nat) (y4 : List V) (y5 : Nat) (y6 : List V) (y7 : Nat) (y8 : List V) : Option V := bif (↑y3 : Int) != 32 then some (V.tup
 [V.int .i64 1]) else bif (↑y5 : Int) != 32 then some (V.tup [V.int .i64 1]) else bif (↑y7 : Int) != 32 then some (V.tup [V.int .i64 1]) else need (O.R 0 103 [V.int .i64 y1, V.int .i64 1, V.int .i64
 1000000]) fun x1 => asTup (some x1) fun x2 => PI.asBool x2[0]? fun x3 => bif !x3 then some (V.tup [V.int .i64 3]) else need (O.R 0 103 [V.int .i64 y2, V.int .i64 0, V.int .i64 1099511627776]) fun x4
 => asTup (some x4) fun x5 => PI.asBool x5[0]? fun x6 => bif !x6 then some (V.tup [V.int .i64 3]) else some (V.tup [V.int .i64 0])
theorem e143 (k m q0 q1 : Nat) (y1 : Int) (y2 : Int) (y3 : Nat) (y4 : List V) (y5 : Nat) (y6 : List V) (y7 : Nat) (y8 : List V) : runV C (k + 1) 143 [V.agg [V.int .i64 y1, V.int .i64 y2, V.sl y3 y4,
 V.sl y5 y6, V.sl y7 y8]] = T143 (orc C k) k m q0 q1 y1 y2 y3 y4 y5 y6 y7 y8 := by kernel_rfl
theorem E143 (y1 : Int) (y2 : Int) (y3 : Nat) (y4 : List V) (y5 : Nat) (y6 : List V) (y7 : Nat) (y8 : List V) {r : V} (h : T143 (orcE C) 0 0 0 0 y1 y2 y3 y4 y5 y6 y7 y8 = some r) : runE C 143 [V.agg
 [V.int .i64 y1, V.int .i64 y2, V.sl y3 y4, V.sl y5 y6, V.sl y7 y8]] = some r := ofR (F := fun s => T143 (orc C s.k) s.k s.m 0 0 y1 y2 y3 y4 y5 y6 y7 y8) (fun k => e143 k k 0 0 y1 y2 y3 y4 y5 y6 y7 y8)
 (by
  unfold T143
  repeat' first | with_reducible exact cC | with_reducible refine cN cR fun _ => ?_ | with_reducible refine cT fun _ => ?_ | with_reducible refine cF ?_ ?_ | with_reducible refine cB fun _ => ?_ | with_reducible refine cN cC fun _ => ?_ | with_reducible exact cR) h

noncomputable def T52l1 (O : Orc) (k m q0 q1 : Nat) (y1 : Nat) (y2 : List V) (y3 : Nat) (y4 : List V) (y5 : Int) (y6 : Int) (y7 : Int) (y8 : Int) (y9 : Nat) (y10 : List V) (y11 : Nat) (y12 : List V)
 (y13 : Nat) (y14 : List V) (y15 : Int) (y16 : Int) (y17 : Int) (y18 : Nat) (y19 : List V) (y20 : Nat) (y21 : List V) (y22 : Nat) (y23 : List V) (y24 : Nat) (y25 : List V) : Option V := bif decide (y6
 < (↑y1 : Int)) then must (inB y6 y1) (must (decide (y6.toNat * 1 < y2.length)) (asSl y2[y6.toNat * 1]? fun x1 x2 => bif decide ((↑x1 : Int) > 200) then some (V.tup [V.int .i64 2, V.int .i64 0, V.int
 .i64 0, V.osl 0 [], V.osl 0 [], V.osl 0 [], V.osl 0 []]) else O.L 0 52 0 [true, true, true, false, true] [] m [(0, V.sl y1 y2), (1, V.sl y3 y4), (2, V.int .i64 y5), (7, V.ptr 0 0), (8, V.ptr 1 0),
 (10, V.int .i64 (IntKind.i64.wrap (y6 + 1)))] [Ob.box 61 [V.int .i64 y7, V.int .i64 y8, V.sl y9 y10, V.sl y11 y12, V.sl y13 y14] false, Ob.box 98 [V.int .i64 y15, V.int .i64 y16, V.int .i64 y17, V.ref
 2, V.ref 3, V.ref 4, V.ref 5] false, Ob.row 5 y18 y19 false, Ob.row 5 y20 y21 false, Ob.row 5 y22 y23 false, Ob.nrow [] 195 y24 y25])) else need (O.R 0 103 [V.int .i64 y5, V.int .i64 0, V.int .i64 3])
 fun x3 => asTup (some x3) fun x4 => PI.asBool x4[0]? fun x5 => bif !x5 then some (V.tup [V.int .i64 3, V.int .i64 0, V.int .i64 0, V.osl 0 [], V.osl 0 [], V.osl 0 [], V.osl 0 []]) else O.L 0 52 2
 [true, true, true, true, true, false, true] [] k [(0, V.sl y1 y2), (1, V.sl y3 y4), (2, V.int .i64 y5), (7, V.ptr 0 0), (8, V.ptr 1 0), (11, V.int .i64 0)] [Ob.box 61 [V.int .i64 y7, V.int .i64 y8,
 V.sl y9 y10, V.sl y11 y12, V.sl y13 y14] false, Ob.box 98 [V.int .i64 y15, V.int .i64 y16, V.int .i64 y17, V.ref 2, V.ref 3, V.ref 4, V.ref 5] false, Ob.row 5 y18 y19 false, Ob.row 5 y20 y21 false,
 Ob.row 5 y22 y23 false, Ob.nrow [] 195 y24 y25]
theorem e52l1 (k m q0 q1 : Nat) (y1 : Nat) (y2 : List V) (y3 : Nat) (y4 : List V) (y5 : Int) (y6 : Int) (y7 : Int) (y8 : Int) (y9 : Nat) (y10 : List V) (y11 : Nat) (y12 : List V) (y13 : Nat) (y14 :
 List V) (y15 : Int) (y16 : Int) (y17 : Int) (y18 : Nat) (y19 : List V) (y20 : Nat) (y21 : List V) (y22 : Nat) (y23 : List V) (y24 : Nat) (y25 : List V) : runL C k 52 0 [true, true, true, false, true]
 [] (m + 1) [(0, V.sl y1 y2), (1, V.sl y3 y4), (2, V.int .i64 y5), (7, V.ptr 0 0), (8, V.ptr 1 0), (10, V.int .i64 y6)] [Ob.box 61 [V.int .i64 y7, V.int .i64 y8, V.sl y9 y10, V.sl y11 y12, V.sl y13
 y14] false, Ob.box 98 [V.int .i64 y15, V.int .i64 y16, V.int .i64 y17, V.ref 2, V.ref 3, V.ref 4, V.ref 5] false, Ob.row 5 y18 y19 false, Ob.row 5 y20 y21 false, Ob.row 5 y22 y23 false, Ob.nrow [] 195
 y24 y25] = T52l1 (orc C k) k m q0 q1 y1 y2 y3 y4 y5 y6 y7 y8 y9 y10 y11 y12 y13 y14 y15 y16 y17 y18 y19 y20 y21 y22 y23 y24 y25 := by kernel_rfl
theorem E52l1 (y1 : Nat) (y2 : List V) (y3 : Nat) (y4 : List V) (y5 : Int) (y6 : Int) (y7 : Int) (y8 : Int) (y9 : Nat) (y10 : List V) (y11 : Nat) (y12 : List V) (y13 : Nat) (y14 : List V) (y15 : Int)
 (y16 : Int) (y17 : Int) (y18 : Nat) (y19 : List V) (y20 : Nat) (y21 : List V) (y22 : Nat) (y23 : List V) (y24 : Nat) (y25 : List V) {r : V} (h : T52l1 (orcE C) 0 0 0 0 y1 y2 y3 y4 y5 y6 y7 y8 y9 y10
 y11 y12 y13 y14 y15 y16 y17 y18 y19 y20 y21 y22 y23 y24 y25 = some r) : loopE C 52 0 [true, true, true, false, true] [] [(0, V.sl y1 y2), (1, V.sl y3 y4), (2, V.int .i64 y5), (7, V.ptr 0 0), (8, V.ptr
 1 0), (10, V.int .i64 y6)] [Ob.box 61 [V.int .i64 y7, V.int .i64 y8, V.sl y9 y10, V.sl y11 y12, V.sl y13 y14] false, Ob.box 98 [V.int .i64 y15, V.int .i64 y16, V.int .i64 y17, V.ref 2, V.ref 3, V.ref
 4, V.ref 5] false, Ob.row 5 y18 y19 false, Ob.row 5 y20 y21 false, Ob.row 5 y22 y23 false, Ob.nrow [] 195 y24 y25] = some r := ofL (j := 0) (F := fun s => T52l1 (orc C s.k) s.k s.m 0 0 y1 y2 y3 y4 y5
 y6 y7 y8 y9 y10 y11 y12 y13 y14 y15 y16 y17 y18 y19 y20 y21 y22 y23 y24 y25) (fs0 fun k m => e52l1 k m 0 0 y1 y2 y3 y4 y5 y6 y7 y8 y9 y10 y11 y12 y13 y14 y15 y16 y17 y18 y19 y20 y21 y22 y23 y24 y25) (by
  unfold T52l1
  repeat' first | with_reducible exact cC | with_reducible refine cN cR fun _ => ?_ | with_reducible refine cT fun _ => ?_ | with_reducible refine cM ?_ | with_reducible refine cF ?_ ?_ | with_reducible refine cB fun _ => ?_ | with_reducible refine cL fun _ _ => ?_ | with_reducible refine cN cC fun _ => ?_ | with_reducible exact cR | exact cD0 gK | exact cD0 gM) h

noncomputable def T136 (O : Orc) (k m q0 q1 : Nat) (y1 : Int) (y2 : Int) (y3 : Nat) (y4 : List V) (y5 : Nat) (y6 : List V) (y7 : Nat) (y8 : List V) : Option V := need (O.R 0 180 [V.sl 3 [V.sl y3 y4,
 V.sl y5 y6, V.sl y7 y8]]) fun x1 => asTup (some x1) fun x2 => PI.asBool x2[0]? fun x3 => bif !x3 then some (V.tup [V.int .i64 1]) else need (O.R 0 92 [V.int .i64 y1, V.int .i64 1, V.int .i64 1000000])
 fun x4 => asTup (some x4) fun x5 => PI.asBool x5[0]? fun x6 => bif !x6 then some (V.tup [V.int .i64 3]) else need (O.R 0 92 [V.int .i64 y2, V.int .i64 0, V.int .i64 1099511627776]) fun x7 => asTup
 (some x7) fun x8 => PI.asBool x8[0]? fun x9 => bif !x9 then some (V.tup [V.int .i64 3]) else some (V.tup [V.int .i64 0])
theorem e136 (k m q0 q1 : Nat) (y1 : Int) (y2 : Int) (y3 : Nat) (y4 : List V) (y5 : Nat) (y6 : List V) (y7 : Nat) (y8 : List V) : runV C (k + 1) 136 [V.agg [V.int .i64 y1, V.int .i64 y2, V.sl y3 y4,
 V.sl y5 y6, V.sl y7 y8]] = T136 (orc C k) k m q0 q1 y1 y2 y3 y4 y5 y6 y7 y8 := by kernel_rfl
theorem E136 (y1 : Int) (y2 : Int) (y3 : Nat) (y4 : List V) (y5 : Nat) (y6 : List V) (y7 : Nat) (y8 : List V) {r : V} (h : T136 (orcE C) 0 0 0 0 y1 y2 y3 y4 y5 y6 y7 y8 = some r) : runE C 136 [V.agg
 [V.int .i64 y1, V.int .i64 y2, V.sl y3 y4, V.sl y5 y6, V.sl y7 y8]] = some r := ofR (F := fun s => T136 (orc C s.k) s.k s.m 0 0 y1 y2 y3 y4 y5 y6 y7 y8) (fun k => e136 k k 0 0 y1 y2 y3 y4 y5 y6 y7 y8)
 (by
  unfold T136
  repeat' first | with_reducible exact cC | with_reducible refine cN cR fun _ => ?_ | with_reducible refine cT fun _ => ?_ | with_reducible refine cF ?_ ?_ | with_reducible refine cB fun _ => ?_ | with_reducible refine cN cC fun _ => ?_ | with_reducible exact cR) h

noncomputable def T137 (O : Orc) (k m q0 q1 : Nat) (y1 : Nat) (y2 : List V) : Option V := need (O.R 0 211 [V.sl y1 y2, V.fn 138 []]) fun x1 => asTup (some x1) fun x2 => PI.asInt .i64 x2[0]? fun x3 =>
 some (V.tup [V.bool (decide (x3 ≥ 0))])
theorem e137 (k m q0 q1 : Nat) (y1 : Nat) (y2 : List V) : runV C (k + 1) 137 [V.sl y1 y2, V.fn 138 []] = T137 (orc C k) k m q0 q1 y1 y2 := by kernel_rfl
theorem E137 (y1 : Nat) (y2 : List V) {r : V} (h : T137 (orcE C) 0 0 0 0 y1 y2 = some r) : runE C 137 [V.sl y1 y2, V.fn 138 []] = some r := ofR (F := fun s => T137 (orc C s.k) s.k s.m 0 0 y1 y2) (fun k
 => e137 k k 0 0 y1 y2) (by
  unfold T137
  repeat' first | with_reducible exact cC | with_reducible refine cN cR fun _ => ?_ | with_reducible refine cT fun _ => ?_ | with_reducible refine cI fun _ => ?_ | with_reducible refine cN cC fun _ => ?_ | with_reducible exact cR) h

noncomputable def T139 (O : Orc) (k m q0 q1 : Nat) (y1 : Int) : Option V := need (O.R 0 92 [V.int .i64 y1, V.int .i64 0, V.int .i64 3]) fun x1 => asTup (some x1) fun x2 => PI.asBool x2[0]? fun x3 =>
 some (V.tup [V.bool x3])
theorem e139 (k m q0 q1 : Nat) (y1 : Int) : runV C (k + 1) 139 [V.int .i64 y1] = T139 (orc C k) k m q0 q1 y1 := by kernel_rfl
theorem E139 (y1 : Int) {r : V} (h : T139 (orcE C) 0 0 0 0 y1 = some r) : runE C 139 [V.int .i64 y1] = some r := ofR (F := fun s => T139 (orc C s.k) s.k s.m 0 0 y1) (fun k => e139 k k 0 0 y1) (by
  unfold T139
  repeat' first | with_reducible exact cC | with_reducible refine cN cR fun _ => ?_ | with_reducible refine cT fun _ => ?_ | with_reducible refine cB fun _ => ?_ | with_reducible refine cN cC fun _ => ?_ | with_reducible exact cR) h

noncomputable def T51l1 (O : Orc) (k m q0 q1 : Nat) (y1 : Nat) (y2 : List V) (y3 : Nat) (y4 : List V) (y5 : Int) (y6 : Nat) (y7 : List V) (y8 : Int) (y9 : Int) (y10 : Int) (y11 : Int) (y12 : Nat) (y13
 : List V) (y14 : Nat) (y15 : List V) (y16 : Nat) (y17 : List V) (y18 : Int) (y19 : Int) (y20 : Int) (y21 : Nat) (y22 : List V) (y23 : Nat) (y24 : List V) (y25 : Nat) (y26 : List V) (y27 : Nat) (y28 :
 List V) : Option V := bif decide (y9 < y8) then must (inB y9 y6) (PI.asInt .i64 y7[y9.toNat * 1]? fun x1 => need (O.R 0 92 [V.int .i64 x1, V.int .i64 0, V.int .i64 (IntKind.i64.wrap ((↑y1 : Int) -
 1))]) fun x2 => asTup (some x2) fun x3 => PI.asBool x3[0]? fun x4 => bif !x4 then some (V.tup [V.int .i64 3, V.int .i64 0, V.int .i64 0, V.osl 0 [], V.osl 0 [], V.osl 0 [], V.osl 0 []]) else bif
 decide (y9 > 0) then must (inB (IntKind.i64.wrap (y9 - 1)) y3) (PI.asInt .i64 y4[(IntKind.i64.wrap (y9 - 1)).toNat * 1]? fun x5 => bif decide (x5 ≥ x1) then some (V.tup [V.int .i64 3, V.int .i64 0,
 V.int .i64 0, V.osl 0 [], V.osl 0 [], V.osl 0 [], V.osl 0 []]) else O.L 0 51 0 [true, true, true, true, false, true] [] m [(0, V.sl y1 y2), (1, V.sl y3 y4), (2, V.int .i64 y5), (7, V.ptr 0 0), (8,
 V.ptr 1 0), (38, V.sl y6 y7), (39, V.int .i64 y8), (40, V.int .i64 (IntKind.i64.wrap (y9 + 1)))] [Ob.box 61 [V.int .i64 y10, V.int .i64 y11, V.sl y12 y13, V.sl y14 y15, V.sl y16 y17] false, Ob.box 98
 [V.int .i64 y18, V.int .i64 y19, V.int .i64 y20, V.ref 2, V.ref 3, V.ref 4, V.ref 5] false, Ob.row 5 y21 y22 false, Ob.row 5 y23 y24 false, Ob.row 5 y25 y26 false, Ob.nrow [] 195 y27 y28]) else O.L 0
 51 0 [true, true, true, true, false, true] [] m [(0, V.sl y1 y2), (1, V.sl y3 y4), (2, V.int .i64 y5), (7, V.ptr 0 0), (8, V.ptr 1 0), (38, V.sl y6 y7), (39, V.int .i64 y8), (40, V.int .i64
 (IntKind.i64.wrap (y9 + 1)))] [Ob.box 61 [V.int .i64 y10, V.int .i64 y11, V.sl y12 y13, V.sl y14 y15, V.sl y16 y17] false, Ob.box 98 [V.int .i64 y18, V.int .i64 y19, V.int .i64 y20, V.ref 2, V.ref 3,
 V.ref 4, V.ref 5] false, Ob.row 5 y21 y22 false, Ob.row 5 y23 y24 false, Ob.row 5 y25 y26 false, Ob.nrow [] 195 y27 y28]) else need (O.R 0 140 [V.agg [V.int .i64 y10, V.int .i64 y11, V.sl y12 y13,
 V.sl y14 y15, V.sl y16 y17]]) fun x6 => asTup (some x6) fun x7 => PI.asInt .i64 x7[0]? fun x8 => PI.asInt .i64 x7[1]? fun x9 => asOsl x7[2]? fun x10 x11 => asOsl x7[3]? fun x12 x13 => asOsl x7[4]? fun
 x14 x15 => O.L 0 51 2 [true, true, true, true, true, true, false, true] [] k [(0, V.sl y1 y2), (2, V.int .i64 y5), (7, V.ptr 0 0), (8, V.ptr 1 0), (12, V.ptr 6 0), (69, V.sl y3 y4), (70, V.int .i64
 (↑y3 : Int)), (71, V.int .i64 0)] [Ob.box 61 [V.int .i64 y10, V.int .i64 y11, V.sl y12 y13, V.sl y14 y15, V.sl y16 y17] false, Ob.box 98 [V.int .i64 y18, V.int .i64 y19, V.int .i64 y20, V.ref 2, V.ref
 3, V.ref 4, V.ref 5] false, Ob.row 5 y21 y22 false, Ob.row 5 y23 y24 false, Ob.row 5 y25 y26 false, Ob.nrow [] 195 y27 y28, Ob.box 96 [V.int .i64 x8, V.int .i64 x9, V.ref 7, V.ref 8, V.ref 9, V.ref
 10] false, Ob.row 5 x10 x11 false, Ob.row 5 x12 x13 false, Ob.row 5 x14 x15 false, Ob.nrow [] 195 0 []]
theorem e51l1 (k m q0 q1 : Nat) (y1 : Nat) (y2 : List V) (y3 : Nat) (y4 : List V) (y5 : Int) (y6 : Nat) (y7 : List V) (y8 : Int) (y9 : Int) (y10 : Int) (y11 : Int) (y12 : Nat) (y13 : List V) (y14 :
 Nat) (y15 : List V) (y16 : Nat) (y17 : List V) (y18 : Int) (y19 : Int) (y20 : Int) (y21 : Nat) (y22 : List V) (y23 : Nat) (y24 : List V) (y25 : Nat) (y26 : List V) (y27 : Nat) (y28 : List V) : runL C
 k 51 0 [true, true, true, true, false, true] [] (m + 1) [(0, V.sl y1 y2), (1, V.sl y3 y4), (2, V.int .i64 y5), (7, V.ptr 0 0), (8, V.ptr 1 0), (38, V.sl y6 y7), (39, V.int .i64 y8), (40, V.int .i64
 y9)] [Ob.box 61 [V.int .i64 y10, V.int .i64 y11, V.sl y12 y13, V.sl y14 y15, V.sl y16 y17] false, Ob.box 98 [V.int .i64 y18, V.int .i64 y19, V.int .i64 y20, V.ref 2, V.ref 3, V.ref 4, V.ref 5] false,
 Ob.row 5 y21 y22 false, Ob.row 5 y23 y24 false, Ob.row 5 y25 y26 false, Ob.nrow [] 195 y27 y28] = T51l1 (orc C k) k m q0 q1 y1 y2 y3 y4 y5 y6 y7 y8 y9 y10 y11 y12 y13 y14 y15 y16 y17 y18 y19 y20 y21
 y22 y23 y24 y25 y26 y27 y28 := by kernel_rfl
theorem E51l1 (y1 : Nat) (y2 : List V) (y3 : Nat) (y4 : List V) (y5 : Int) (y6 : Nat) (y7 : List V) (y8 : Int) (y9 : Int) (y10 : Int) (y11 : Int) (y12 : Nat) (y13 : List V) (y14 : Nat) (y15 : List V)
 (y16 : Nat) (y17 : List V) (y18 : Int) (y19 : Int) (y20 : Int) (y21 : Nat) (y22 : List V) (y23 : Nat) (y24 : List V) (y25 : Nat) (y26 : List V) (y27 : Nat) (y28 : List V) {r : V} (h : T51l1 (orcE C) 0
 0 0 0 y1 y2 y3 y4 y5 y6 y7 y8 y9 y10 y11 y12 y13 y14 y15 y16 y17 y18 y19 y20 y21 y22 y23 y24 y25 y26 y27 y28 = some r) : loopE C 51 0 [true, true, true, true, false, true] [] [(0, V.sl y1 y2), (1,
 V.sl y3 y4), (2, V.int .i64 y5), (7, V.ptr 0 0), (8, V.ptr 1 0), (38, V.sl y6 y7), (39, V.int .i64 y8), (40, V.int .i64 y9)] [Ob.box 61 [V.int .i64 y10, V.int .i64 y11, V.sl y12 y13, V.sl y14 y15,
 V.sl y16 y17] false, Ob.box 98 [V.int .i64 y18, V.int .i64 y19, V.int .i64 y20, V.ref 2, V.ref 3, V.ref 4, V.ref 5] false, Ob.row 5 y21 y22 false, Ob.row 5 y23 y24 false, Ob.row 5 y25 y26 false,
 Ob.nrow [] 195 y27 y28] = some r := ofL (j := 0) (F := fun s => T51l1 (orc C s.k) s.k s.m 0 0 y1 y2 y3 y4 y5 y6 y7 y8 y9 y10 y11 y12 y13 y14 y15 y16 y17 y18 y19 y20 y21 y22 y23 y24 y25 y26 y27 y28)
 (fs0 fun k m => e51l1 k m 0 0 y1 y2 y3 y4 y5 y6 y7 y8 y9 y10 y11 y12 y13 y14 y15 y16 y17 y18 y19 y20 y21 y22 y23 y24 y25 y26 y27 y28) (by
  unfold T51l1
  repeat' first | with_reducible exact cC | with_reducible refine cN cR fun _ => ?_ | with_reducible refine cT fun _ => ?_ | with_reducible refine cI fun _ => ?_ | with_reducible refine cM ?_ | with_reducible refine cF ?_ ?_ | with_reducible refine cB fun _ => ?_ | with_reducible refine cO fun _ _ => ?_ | with_reducible refine cN cC fun _ => ?_ | with_reducible exact cR | exact cD0 gK | exact cD0 gM) h

noncomputable def T153 (O : Orc) (k m q0 q1 : Nat) (y1 : Int) (y2 : Int) (y3 : Nat) (y4 : List V) (y5 : Nat) (y6 : List V) (y7 : Nat) (y8 : List V) (y9 : Nat) (y10 : List V) (y11 : Int) (y12 : Int)
 (y13 : Nat) (y14 : List V) (y15 : Nat) (y16 : List V) (y17 : Nat) (y18 : List V) (y19 : Nat) (y20 : List V) : Option V := need (O.R 0 35 [V.agg [V.int .i64 y1, V.int .i64 y2, V.sl y3 y4, V.sl y5 y6,
 V.sl y7 y8], V.agg [V.int .i64 y11, V.int .i64 y12, V.sl y13 y14, V.sl y15 y16, V.sl y17 y18]]) fun x1 => asTup (some x1) fun x2 => PI.asBool x2[0]? fun x3 => bif !x3 then some (V.tup [V.bool false])
 else need (O.R 0 226 [V.sl y9 y10, V.sl y19 y20]) fun x4 => asTup (some x4) fun x5 => PI.asBool x5[0]? fun x6 => bif !x6 then some (V.tup [V.bool false]) else some (V.tup [V.bool true])
theorem e153 (k m q0 q1 : Nat) (y1 : Int) (y2 : Int) (y3 : Nat) (y4 : List V) (y5 : Nat) (y6 : List V) (y7 : Nat) (y8 : List V) (y9 : Nat) (y10 : List V) (y11 : Int) (y12 : Int) (y13 : Nat) (y14 : List
 V) (y15 : Nat) (y16 : List V) (y17 : Nat) (y18 : List V) (y19 : Nat) (y20 : List V) : runV C (k + 1) 153 [V.agg [V.int .i64 y1, V.int .i64 y2, V.sl y3 y4, V.sl y5 y6, V.sl y7 y8, V.sl y9 y10], V.agg
 [V.int .i64 y11, V.int .i64 y12, V.sl y13 y14, V.sl y15 y16, V.sl y17 y18, V.sl y19 y20]] = T153 (orc C k) k m q0 q1 y1 y2 y3 y4 y5 y6 y7 y8 y9 y10 y11 y12 y13 y14 y15 y16 y17 y18 y19 y20 := by
 kernel_rfl
theorem E153 (y1 : Int) (y2 : Int) (y3 : Nat) (y4 : List V) (y5 : Nat) (y6 : List V) (y7 : Nat) (y8 : List V) (y9 : Nat) (y10 : List V) (y11 : Int) (y12 : Int) (y13 : Nat) (y14 : List V) (y15 : Nat)
 (y16 : List V) (y17 : Nat) (y18 : List V) (y19 : Nat) (y20 : List V) {r : V} (h : T153 (orcE C) 0 0 0 0 y1 y2 y3 y4 y5 y6 y7 y8 y9 y10 y11 y12 y13 y14 y15 y16 y17 y18 y19 y20 = some r) : runE C 153
 [V.agg [V.int .i64 y1, V.int .i64 y2, V.sl y3 y4, V.sl y5 y6, V.sl y7 y8, V.sl y9 y10], V.agg [V.int .i64 y11, V.int .i64 y12, V.sl y13 y14, V.sl y15 y16, V.sl y17 y18, V.sl y19 y20]] = some r := ofR
 (F := fun s => T153 (orc C s.k) s.k s.m 0 0 y1 y2 y3 y4 y5 y6 y7 y8 y9 y10 y11 y12 y13 y14 y15 y16 y17 y18 y19 y20) (fun k => e153 k k 0 0 y1 y2 y3 y4 y5 y6 y7 y8 y9 y10 y11 y12 y13 y14 y15 y16 y17
 y18 y19 y20) (by
  unfold T153
  repeat' first | with_reducible exact cC | with_reducible refine cN cR fun _ => ?_ | with_reducible refine cT fun _ => ?_ | with_reducible refine cF ?_ ?_ | with_reducible refine cB fun _ => ?_ | with_reducible refine cN cC fun _ => ?_ | with_reducible exact cR) h

noncomputable def T70l1 (O : Orc) (k m q0 q1 : Nat) (y1 : Nat) (y2 : List V) (y3 : Nat) (y4 : List V) (y5 : Int) : Option V := bif decide (y5 < (↑y1 : Int)) then must (inB y5 y1) (must (decide
 (y5.toNat * 1 < y2.length)) (must (inB y5 y3) (must (decide (y5.toNat * 1 < y4.length)) (asSl y2[y5.toNat * 1]? fun x1 x2 => asSl y4[y5.toNat * 1]? fun x3 x4 => need (O.R 0 123 [V.sl x1 x2, V.sl x3
 x4]) fun x5 => asTup (some x5) fun x6 => PI.asBool x6[0]? fun x7 => bif !x7 then some (V.tup [V.bool false]) else O.L 0 70 0 [true, true, false, true] [] m [(0, V.sl y1 y2), (1, V.sl y3 y4), (5, V.int
 .i64 (IntKind.i64.wrap (y5 + 1)))] [])))) else some (V.tup [V.bool true])
theorem e70l1 (k m q0 q1 : Nat) (y1 : Nat) (y2 : List V) (y3 : Nat) (y4 : List V) (y5 : Int) : runL C k 70 0 [true, true, false, true] [] (m + 1) [(0, V.sl y1 y2), (1, V.sl y3 y4), (5, V.int .i64 y5)]
 [] = T70l1 (orc C k) k m q0 q1 y1 y2 y3 y4 y5 := by kernel_rfl
theorem E70l1 (y1 : Nat) (y2 : List V) (y3 : Nat) (y4 : List V) (y5 : Int) {r : V} (h : T70l1 (orcE C) 0 0 0 0 y1 y2 y3 y4 y5 = some r) : loopE C 70 0 [true, true, false, true] [] [(0, V.sl y1 y2), (1,
 V.sl y3 y4), (5, V.int .i64 y5)] [] = some r := ofL (j := 0) (F := fun s => T70l1 (orc C s.k) s.k s.m 0 0 y1 y2 y3 y4 y5) (fs0 fun k m => e70l1 k m 0 0 y1 y2 y3 y4 y5) (by
  unfold T70l1
  repeat' first | with_reducible exact cC | with_reducible refine cN cR fun _ => ?_ | with_reducible refine cT fun _ => ?_ | with_reducible refine cM ?_ | with_reducible refine cF ?_ ?_ | with_reducible refine cB fun _ => ?_ | with_reducible refine cL fun _ _ => ?_ | with_reducible refine cN cC fun _ => ?_ | with_reducible exact cR | exact cD0 gM) h

noncomputable def T71l1 (O : Orc) (k m q0 q1 : Nat) (y1 : Nat) (y2 : List V) (y3 : Nat) (y4 : List V) (y5 : Int) : Option V := bif decide (y5 < (↑y1 : Int)) then must (inB y5 y1) (PI.asInt .i64
 y2[y5.toNat * 1]? fun x1 => must (inB y5 y3) (PI.asInt .i64 y4[y5.toNat * 1]? fun x2 => bif x1 != x2 then some (V.tup [V.bool false]) else O.L 0 71 0 [true, true, false, true] [] m [(0, V.sl y1 y2),
 (1, V.sl y3 y4), (5, V.int .i64 (IntKind.i64.wrap (y5 + 1)))] [])) else some (V.tup [V.bool true])
theorem e71l1 (k m q0 q1 : Nat) (y1 : Nat) (y2 : List V) (y3 : Nat) (y4 : List V) (y5 : Int) : runL C k 71 0 [true, true, false, true] [] (m + 1) [(0, V.sl y1 y2), (1, V.sl y3 y4), (5, V.int .i64 y5)]
 [] = T71l1 (orc C k) k m q0 q1 y1 y2 y3 y4 y5 := by kernel_rfl
theorem E71l1 (y1 : Nat) (y2 : List V) (y3 : Nat) (y4 : List V) (y5 : Int) {r : V} (h : T71l1 (orcE C) 0 0 0 0 y1 y2 y3 y4 y5 = some r) : loopE C 71 0 [true, true, false, true] [] [(0, V.sl y1 y2), (1,
 V.sl y3 y4), (5, V.int .i64 y5)] [] = some r := ofL (j := 0) (F := fun s => T71l1 (orc C s.k) s.k s.m 0 0 y1 y2 y3 y4 y5) (fs0 fun k m => e71l1 k m 0 0 y1 y2 y3 y4 y5) (by
  unfold T71l1
  repeat' first | with_reducible exact cC | with_reducible refine cI fun _ => ?_ | with_reducible refine cM ?_ | with_reducible refine cF ?_ ?_ | exact cD0 gM) h

noncomputable def T123 (O : Orc) (k m q0 q1 : Nat) (y1 : Nat) (y2 : List V) (y3 : Nat) (y4 : List V) : Option V := bif (↑y1 : Int) != (↑y3 : Int) then some (V.tup [V.bool false]) else O.L 0 123 0
 [true, true, false, true] [] k [(0, V.sl y1 y2), (1, V.sl y3 y4), (5, V.int .i64 0)] []
theorem e123 (k m q0 q1 : Nat) (y1 : Nat) (y2 : List V) (y3 : Nat) (y4 : List V) : runV C (k + 1) 123 [V.sl y1 y2, V.sl y3 y4] = T123 (orc C k) k m q0 q1 y1 y2 y3 y4 := by kernel_rfl
theorem E123 (y1 : Nat) (y2 : List V) (y3 : Nat) (y4 : List V) {r : V} (h : T123 (orcE C) 0 0 0 0 y1 y2 y3 y4 = some r) : runE C 123 [V.sl y1 y2, V.sl y3 y4] = some r := ofR (F := fun s => T123 (orc C
 s.k) s.k s.m 0 0 y1 y2 y3 y4) (fun k => e123 k k 0 0 y1 y2 y3 y4) (by
  unfold T123
  repeat' first | with_reducible exact cC | with_reducible refine cF ?_ ?_ | exact cD0 gK) h

noncomputable def T72l1 (O : Orc) (k m q0 q1 : Nat) (y1 : Int) (y2 : Int) (y3 : Nat) (y4 : List V) : Option V := bif decide (y2 < (↑y3 : Int)) then must (inB y2 y3) (asOwn false 5 1 y4[y2.toNat * 1]?
 fun x1 x2 => need (O.W 0 125 [0] [V.ref 0, V.int .i64 y1] [Ob.row 5 x1 x2 false]) fun x3 => asTup (some x3) fun x4 => PI.asInt .i64 x4[0]? fun x5 => asOsl x4[1]? fun x6 x7 => must (x7.all flatV) (O.X
 0 72 [0] [Ob.nrow [] 22 0 []] 0 [true, false, true] [] m [(0, V.ref 0), (1, V.int .i64 x5), (5, V.int .i64 (IntKind.i64.wrap (y2 + 1)))] [Ob.nrow [] 22 y3 (y4.set (y2.toNat * 1) (V.own false 5 1 x6
 x7))])) else some (V.tup [V.int .i64 y1, V.osl y3 y4])
theorem e72l1 (k m q0 q1 : Nat) (y1 : Int) (y2 : Int) (y3 : Nat) (y4 : List V) : runLW C k 72 [0] [Ob.nrow [] 22 0 []] 0 [true, false, true] [] (m + 1) [(0, V.ref 0), (1, V.int .i64 y1), (5, V.int .i64
 y2)] [Ob.nrow [] 22 y3 y4] = T72l1 (orc C k) k m q0 q1 y1 y2 y3 y4 := by kernel_rfl
theorem E72l1 (y1 : Int) (y2 : Int) (y3 : Nat) (y4 : List V) {r : V} (h : T72l1 (orcE C) 0 0 0 0 y1 y2 y3 y4 = some r) : loopWE C 72 [0] [Ob.nrow [] 22 0 []] 0 [true, false, true] [] [(0, V.ref 0), (1,
 V.int .i64 y1), (5, V.int .i64 y2)] [Ob.nrow [] 22 y3 y4] = some r := ofX (j := 0) (F := fun s => T72l1 (orc C s.k) s.k s.m 0 0 y1 y2 y3 y4) (fs0 fun k m => e72l1 k m 0 0 y1 y2 y3 y4) (by
  unfold T72l1
  repeat' first | with_reducible exact cC | with_reducible refine cN cQ fun _ => ?_ | with_reducible refine cT fun _ => ?_ | with_reducible refine cI fun _ => ?_ | with_reducible refine cM ?_ | with_reducible refine cF ?_ ?_ | with_reducible refine cO fun _ _ => ?_ | with_reducible refine cP fun _ _ => ?_ | with_reducible refine cN cC fun _ => ?_ | with_reducible exact cQ | exact cX0 gM) h

noncomputable def T73l1 (O : Orc) (k m q0 q1 : Nat) (y1 : Int) (y2 : Int) (y3 : Nat) (y4 : List V) : Option V := bif decide (y2 < (↑y3 : Int)) then must (inB y2 y3) (must ([V.int .i64 y1].length.beq 1
 && (y2.toNat * 1 + [V.int .i64 y1].length).ble y4.length) (O.X 0 73 [0] [Ob.row 2 0 [] false] 0 [true, false, true] [] m [(0, V.ref 0), (1, V.int .i64 (IntKind.i64.wrap (y1 + 1))), (5, V.int .i64
 (IntKind.i64.wrap (y2 + 1)))] [Ob.row 2 y3 (splice y4 (y2.toNat * 1) [V.int .i64 y1]) false])) else must (false || y4.all flatV) (some (V.tup [V.int .i64 y1, V.osl y3 y4]))
theorem e73l1 (k m q0 q1 : Nat) (y1 : Int) (y2 : Int) (y3 : Nat) (y4 : List V) : runLW C k 73 [0] [Ob.row 2 0 [] false] 0 [true, false, true] [] (m + 1) [(0, V.ref 0), (1, V.int .i64 y1), (5, V.int
 .i64 y2)] [Ob.row 2 y3 y4 false] = T73l1 (orc C k) k m q0 q1 y1 y2 y3 y4 := by kernel_rfl
theorem E73l1 (y1 : Int) (y2 : Int) (y3 : Nat) (y4 : List V) {r : V} (h : T73l1 (orcE C) 0 0 0 0 y1 y2 y3 y4 = some r) : loopWE C 73 [0] [Ob.row 2 0 [] false] 0 [true, false, true] [] [(0, V.ref 0),
 (1, V.int .i64 y1), (5, V.int .i64 y2)] [Ob.row 2 y3 y4 false] = some r := ofX (j := 0) (F := fun s => T73l1 (orc C s.k) s.k s.m 0 0 y1 y2 y3 y4) (fs0 fun k m => e73l1 k m 0 0 y1 y2 y3 y4) (by
  unfold T73l1
  repeat' first | with_reducible exact cC | with_reducible refine cM ?_ | with_reducible refine cF ?_ ?_ | exact cX0 gM) h

noncomputable def T125 (O : Orc) (k m q0 q1 : Nat) (y1 : Int) (y2 : Nat) (y3 : List V) : Option V := O.X 0 125 [0] [Ob.row 5 0 [] false] 0 [true, false, true] [] k [(0, V.ref 0), (1, V.int .i64 y1),
 (5, V.int .i64 0)] [Ob.row 5 y2 y3 false]
theorem e125 (k m q0 q1 : Nat) (y1 : Int) (y2 : Nat) (y3 : List V) : runW C (k + 1) 125 [0] [V.ref 0, V.int .i64 y1] [Ob.row 5 y2 y3 false] = T125 (orc C k) k m q0 q1 y1 y2 y3 := by kernel_rfl
theorem E125 (y1 : Int) (y2 : Nat) (y3 : List V) {r : V} (h : T125 (orcE C) 0 0 0 0 y1 y2 y3 = some r) : runWE C 125 [0] [V.ref 0, V.int .i64 y1] [Ob.row 5 y2 y3 false] = some r := ofW (F := fun s =>
 T125 (orc C s.k) s.k s.m 0 0 y1 y2 y3) (fun k => e125 k k 0 0 y1 y2 y3) (by
  unfold T125
  repeat' first | with_reducible exact cC | exact cX0 gK) h

noncomputable def T154 (O : Orc) (k m q0 q1 : Nat) (y1 : Int) (y2 : Int) (y3 : Int) (y4 : Nat) (y5 : List V) (y6 : Nat) (y7 : List V) (y8 : Nat) (y9 : List V) (y10 : Nat) (y11 : List V) : Option V :=
 need (O.W 0 37 [0, 1, 2] [V.agg [V.int .i64 y1, V.int .i64 y2, V.ref 0, V.ref 1, V.ref 2], V.int .i64 y3] [Ob.row 5 y4 y5 false, Ob.row 5 y6 y7 false, Ob.row 5 y8 y9 false]) fun x1 => asTup (some x1)
 fun x2 => PI.asInt .i64 x2[0]? fun x3 => asOsl x2[1]? fun x4 x5 => asOsl x2[2]? fun x6 x7 => asOsl x2[3]? fun x8 x9 => need (O.W 0 227 [0] [V.ref 0, V.int .i64 x3] [Ob.nrow [] 195 y10 y11]) fun x10 =>
 asTup (some x10) fun x11 => PI.asInt .i64 x11[0]? fun x12 => asOsl x11[1]? fun x13 x14 => must (false || x5.all flatV) (must (false || x7.all flatV) (must (false || x9.all flatV) (some (V.tup [V.int
 .i64 x12, V.osl x4 x5, V.osl x6 x7, V.osl x8 x9, V.osl x13 x14]))))
theorem e154 (k m q0 q1 : Nat) (y1 : Int) (y2 : Int) (y3 : Int) (y4 : Nat) (y5 : List V) (y6 : Nat) (y7 : List V) (y8 : Nat) (y9 : List V) (y10 : Nat) (y11 : List V) : runW C (k + 1) 154 [0, 1, 2, 3]
 [V.agg [V.int .i64 y1, V.int .i64 y2, V.ref 0, V.ref 1, V.ref 2, V.ref 3], V.int .i64 y3] [Ob.row 5 y4 y5 false, Ob.row 5 y6 y7 false, Ob.row 5 y8 y9 false, Ob.nrow [] 195 y10 y11] = T154 (orc C k) k
 m q0 q1 y1 y2 y3 y4 y5 y6 y7 y8 y9 y10 y11 := by kernel_rfl
theorem E154 (y1 : Int) (y2 : Int) (y3 : Int) (y4 : Nat) (y5 : List V) (y6 : Nat) (y7 : List V) (y8 : Nat) (y9 : List V) (y10 : Nat) (y11 : List V) {r : V} (h : T154 (orcE C) 0 0 0 0 y1 y2 y3 y4 y5 y6
 y7 y8 y9 y10 y11 = some r) : runWE C 154 [0, 1, 2, 3] [V.agg [V.int .i64 y1, V.int .i64 y2, V.ref 0, V.ref 1, V.ref 2, V.ref 3], V.int .i64 y3] [Ob.row 5 y4 y5 false, Ob.row 5 y6 y7 false, Ob.row 5 y8
 y9 false, Ob.nrow [] 195 y10 y11] = some r := ofW (F := fun s => T154 (orc C s.k) s.k s.m 0 0 y1 y2 y3 y4 y5 y6 y7 y8 y9 y10 y11) (fun k => e154 k k 0 0 y1 y2 y3 y4 y5 y6 y7 y8 y9 y10 y11) (by
  unfold T154
  repeat' first | with_reducible exact cC | with_reducible refine cN cQ fun _ => ?_ | with_reducible refine cT fun _ => ?_ | with_reducible refine cI fun _ => ?_ | with_reducible refine cM ?_ | with_reducible refine cO fun _ _ => ?_ | with_reducible refine cN cC fun _ => ?_ | with_reducible exact cQ) h

noncomputable def T155 (O : Orc) (k m q0 q1 : Nat) (y1 : Int) (y2 : Int) (y3 : Nat) (y4 : List V) (y5 : Nat) (y6 : List V) (y7 : Nat) (y8 : List V) (y9 : Nat) (y10 : List V) (y11 : Int) : Option V :=
 need (O.R 0 199 [V.agg [V.int .i64 y1, V.int .i64 y2, V.sl y3 y4, V.sl y5 y6, V.sl y7 y8], V.int .i64 y11]) fun x1 => asTup (some x1) fun x2 => PI.asInt .i64 x2[0]? fun x3 => bif decide (x3 < 0) then
 some (V.tup [V.int .i64 (-1)]) else need (O.R 0 228 [V.sl y9 y10, V.int .i64 x3]) fun x4 => asTup (some x4) fun x5 => PI.asInt .i64 x5[0]? fun x6 => bif decide (x6 < 0) then some (V.tup [V.int .i64
 (-1)]) else some (V.tup [V.int .i64 x6])
theorem e155 (k m q0 q1 : Nat) (y1 : Int) (y2 : Int) (y3 : Nat) (y4 : List V) (y5 : Nat) (y6 : List V) (y7 : Nat) (y8 : List V) (y9 : Nat) (y10 : List V) (y11 : Int) : runV C (k + 1) 155 [V.agg [V.int
 .i64 y1, V.int .i64 y2, V.sl y3 y4, V.sl y5 y6, V.sl y7 y8, V.sl y9 y10], V.int .i64 y11] = T155 (orc C k) k m q0 q1 y1 y2 y3 y4 y5 y6 y7 y8 y9 y10 y11 := by kernel_rfl
theorem E155 (y1 : Int) (y2 : Int) (y3 : Nat) (y4 : List V) (y5 : Nat) (y6 : List V) (y7 : Nat) (y8 : List V) (y9 : Nat) (y10 : List V) (y11 : Int) {r : V} (h : T155 (orcE C) 0 0 0 0 y1 y2 y3 y4 y5 y6
 y7 y8 y9 y10 y11 = some r) : runE C 155 [V.agg [V.int .i64 y1, V.int .i64 y2, V.sl y3 y4, V.sl y5 y6, V.sl y7 y8, V.sl y9 y10], V.int .i64 y11] = some r := ofR (F := fun s => T155 (orc C s.k) s.k s.m
 0 0 y1 y2 y3 y4 y5 y6 y7 y8 y9 y10 y11) (fun k => e155 k k 0 0 y1 y2 y3 y4 y5 y6 y7 y8 y9 y10 y11) (by
  unfold T155
  repeat' first | with_reducible exact cC | with_reducible refine cN cR fun _ => ?_ | with_reducible refine cT fun _ => ?_ | with_reducible refine cI fun _ => ?_ | with_reducible refine cF ?_ ?_ | with_reducible refine cN cC fun _ => ?_ | with_reducible exact cR) h

noncomputable def T119l1 (O : Orc) (k m q0 q1 : Nat) (y1 : Nat) (y2 : List V) (y3 : Int) (y4 : Nat) (y5 : List V) : Option V := bif decide (y3 < (↑y1 : Int)) then must (inB y3 y1) (PI.asInt .u8
 y2[y3.toNat * 1]? fun x1 => must (inB y3 y4) (must ([V.int .u8 x1].length.beq 1 && (y3.toNat * 1 + [V.int .u8 x1].length).ble y5.length) (O.L 0 119 0 [true, true, false, true] [] m [(0, V.sl y1 y2),
 (3, V.ref 0), (4, V.int .i64 (IntKind.i64.wrap (y3 + 1)))] [Ob.row 5 y4 (splice y5 (y3.toNat * 1) [V.int .u8 x1]) false]))) else must (false || y5.all flatV) (some (V.tup [V.osl y4 y5]))
theorem e119l1 (k m q0 q1 : Nat) (y1 : Nat) (y2 : List V) (y3 : Int) (y4 : Nat) (y5 : List V) : runL C k 119 0 [true, true, false, true] [] (m + 1) [(0, V.sl y1 y2), (3, V.ref 0), (4, V.int .i64 y3)]
 [Ob.row 5 y4 y5 false] = T119l1 (orc C k) k m q0 q1 y1 y2 y3 y4 y5 := by kernel_rfl
theorem E119l1 (y1 : Nat) (y2 : List V) (y3 : Int) (y4 : Nat) (y5 : List V) {r : V} (h : T119l1 (orcE C) 0 0 0 0 y1 y2 y3 y4 y5 = some r) : loopE C 119 0 [true, true, false, true] [] [(0, V.sl y1 y2),
 (3, V.ref 0), (4, V.int .i64 y3)] [Ob.row 5 y4 y5 false] = some r := ofL (j := 0) (F := fun s => T119l1 (orc C s.k) s.k s.m 0 0 y1 y2 y3 y4 y5) (fs0 fun k m => e119l1 k m 0 0 y1 y2 y3 y4 y5) (by
  unfold T119l1
  repeat' first | with_reducible exact cC | with_reducible refine cI fun _ => ?_ | with_reducible refine cM ?_ | with_reducible refine cF ?_ ?_ | exact cD0 gM) h

noncomputable def T103 (O : Orc) (k m q0 q1 : Nat) (y1 : Int) (y2 : Int) (y3 : Int) : Option V := bif decide (y1 ≥ y2) then some (V.tup [V.bool (decide (y1 ≤ y3))]) else some (V.tup [V.bool false])
theorem e103 (k m q0 q1 : Nat) (y1 : Int) (y2 : Int) (y3 : Int) : runV C (k + 1) 103 [V.int .i64 y1, V.int .i64 y2, V.int .i64 y3] = T103 (orc C k) k m q0 q1 y1 y2 y3 := by kernel_rfl
theorem E103 (y1 : Int) (y2 : Int) (y3 : Int) {r : V} (h : T103 (orcE C) 0 0 0 0 y1 y2 y3 = some r) : runE C 103 [V.int .i64 y1, V.int .i64 y2, V.int .i64 y3] = some r := ofR (F := fun s => T103 (orc C
 s.k) s.k s.m 0 0 y1 y2 y3) (fun k => e103 k k 0 0 y1 y2 y3) (by
  unfold T103
  repeat' first | with_reducible exact cC | with_reducible refine cF ?_ ?_) h

noncomputable def T52l2 (O : Orc) (k m q0 q1 : Nat) (y1 : Nat) (y2 : List V) (y3 : Nat) (y4 : List V) (y5 : Int) (y6 : Int) (y7 : Int) (y8 : Int) (y9 : Nat) (y10 : List V) (y11 : Nat) (y12 : List V)
 (y13 : Nat) (y14 : List V) (y15 : Int) (y16 : Int) (y17 : Int) (y18 : Nat) (y19 : List V) (y20 : Nat) (y21 : List V) (y22 : Nat) (y23 : List V) (y24 : Nat) (y25 : List V) : Option V := bif decide (y6
 < (↑y3 : Int)) then must (inB y6 y3) (PI.asInt .i64 y4[y6.toNat * 1]? fun x1 => need (O.R 0 103 [V.int .i64 x1, V.int .i64 0, V.int .i64 (IntKind.i64.wrap ((↑y1 : Int) - 1))]) fun x2 => asTup (some
 x2) fun x3 => PI.asBool x3[0]? fun x4 => bif !x4 then both (some (V.tup [V.int .i64 3, V.int .i64 0, V.int .i64 0, V.osl 0 [], V.osl 0 [], V.osl 0 [], V.osl 0 []])) (some (V.tup [V.int .i64 3, V.int
 .i64 0, V.int .i64 0, V.osl 0 [], V.osl 0 [], V.osl 0 [], V.osl 0 []])) else bif decide (y6 > 0) then must (inB y6 y3) (must (inB (IntKind.i64.wrap (y6 - 1)) y3) (both (PI.asInt .i64 y4[y6.toNat * 1]?
 fun x5 => PI.asInt .i64 y4[(IntKind.i64.wrap (y6 - 1)).toNat * 1]? fun x6 => bif decide (x5 ≤ x6) then some (V.tup [V.int .i64 3, V.int .i64 0, V.int .i64 0, V.osl 0 [], V.osl 0 [], V.osl 0 [], V.osl
 0 []]) else O.L 0 52 2 [true, true, true, true, true, false, true] [] m [(0, V.sl y1 y2), (1, V.sl y3 y4), (2, V.int .i64 y5), (7, V.ptr 0 0), (8, V.ptr 1 0), (11, V.int .i64 (IntKind.i64.wrap (y6 +
 1)))] [Ob.box 61 [V.int .i64 y7, V.int .i64 y8, V.sl y9 y10, V.sl y11 y12, V.sl y13 y14] false, Ob.box 98 [V.int .i64 y15, V.int .i64 y16, V.int .i64 y17, V.ref 2, V.ref 3, V.ref 4, V.ref 5] false,
 Ob.row 5 y18 y19 false, Ob.row 5 y20 y21 false, Ob.row 5 y22 y23 false, Ob.nrow [] 195 y24 y25]) (PI.asInt .i64 y4[(IntKind.i64.wrap (y6 - 1)).toNat * 1]? fun x7 => PI.asInt .i64 y4[y6.toNat * 1]? fun
 x8 => bif decide (x8 ≤ x7) then some (V.tup [V.int .i64 3, V.int .i64 0, V.int .i64 0, V.osl 0 [], V.osl 0 [], V.osl 0 [], V.osl 0 []]) else O.L 0 52 2 [true, true, true, true, true, false, true] [] m
 [(0, V.sl y1 y2), (1, V.sl y3 y4), (2, V.int .i64 y5), (7, V.ptr 0 0), (8, V.ptr 1 0), (11, V.int .i64 (IntKind.i64.wrap (y6 + 1)))] [Ob.box 61 [V.int .i64 y7, V.int .i64 y8, V.sl y9 y10, V.sl y11
 y12, V.sl y13 y14] false, Ob.box 98 [V.int .i64 y15, V.int .i64 y16, V.int .i64 y17, V.ref 2, V.ref 3, V.ref 4, V.ref 5] false, Ob.row 5 y18 y19 false, Ob.row 5 y20 y21 false, Ob.row 5 y22 y23 false,
 Ob.nrow [] 195 y24 y25]))) else both (O.L 0 52 2 [true, true, true, true, true, false, true] [] m [(0, V.sl y1 y2), (1, V.sl y3 y4), (2, V.int .i64 y5), (7, V.ptr 0 0), (8, V.ptr 1 0), (11, V.int .i64
 (IntKind.i64.wrap (y6 + 1)))] [Ob.box 61 [V.int .i64 y7, V.int .i64 y8, V.sl y9 y10, V.sl y11 y12, V.sl y13 y14] false, Ob.box 98 [V.int .i64 y15, V.int .i64 y16, V.int .i64 y17, V.ref 2, V.ref 3,
 V.ref 4, V.ref 5] false, Ob.row 5 y18 y19 false, Ob.row 5 y20 y21 false, Ob.row 5 y22 y23 false, Ob.nrow [] 195 y24 y25]) (O.L 0 52 2 [true, true, true, true, true, false, true] [] m [(0, V.sl y1 y2),
 (1, V.sl y3 y4), (2, V.int .i64 y5), (7, V.ptr 0 0), (8, V.ptr 1 0), (11, V.int .i64 (IntKind.i64.wrap (y6 + 1)))] [Ob.box 61 [V.int .i64 y7, V.int .i64 y8, V.sl y9 y10, V.sl y11 y12, V.sl y13 y14]
 false, Ob.box 98 [V.int .i64 y15, V.int .i64 y16, V.int .i64 y17, V.ref 2, V.ref 3, V.ref 4, V.ref 5] false, Ob.row 5 y18 y19 false, Ob.row 5 y20 y21 false, Ob.row 5 y22 y23 false, Ob.nrow [] 195 y24
 y25])) else need (O.R 0 144 [V.sl y1 y2, V.sl y3 y4, V.int .i64 y5, V.agg [V.int .i64 y7, V.int .i64 y8, V.sl y9 y10, V.sl y11 y12, V.sl y13 y14]]) fun x9 => asTup (some x9) fun x10 => PI.asInt .i64
 x10[0]? fun x11 => PI.asInt .i64 x10[1]? fun x12 => asOsl x10[2]? fun x13 x14 => asOsl x10[3]? fun x15 x16 => asOsl x10[4]? fun x17 x18 => asOsl x10[5]? fun x19 x20 => must (false || x14.all flatV)
 (must (false || x16.all flatV) (must (false || x18.all flatV) (some (V.tup [V.int .i64 0, V.int .i64 x11, V.int .i64 x12, V.osl x13 x14, V.osl x15 x16, V.osl x17 x18, V.osl x19 x20]))))
theorem e52l2 (k m q0 q1 : Nat) (y1 : Nat) (y2 : List V) (y3 : Nat) (y4 : List V) (y5 : Int) (y6 : Int) (y7 : Int) (y8 : Int) (y9 : Nat) (y10 : List V) (y11 : Nat) (y12 : List V) (y13 : Nat) (y14 :
 List V) (y15 : Int) (y16 : Int) (y17 : Int) (y18 : Nat) (y19 : List V) (y20 : Nat) (y21 : List V) (y22 : Nat) (y23 : List V) (y24 : Nat) (y25 : List V) : runL C k 52 2 [true, true, true, true, true,
 false, true] [] (m + 1) [(0, V.sl y1 y2), (1, V.sl y3 y4), (2, V.int .i64 y5), (7, V.ptr 0 0), (8, V.ptr 1 0), (11, V.int .i64 y6)] [Ob.box 61 [V.int .i64 y7, V.int .i64 y8, V.sl y9 y10, V.sl y11 y12,
 V.sl y13 y14] false, Ob.box 98 [V.int .i64 y15, V.int .i64 y16, V.int .i64 y17, V.ref 2, V.ref 3, V.ref 4, V.ref 5] false, Ob.row 5 y18 y19 false, Ob.row 5 y20 y21 false, Ob.row 5 y22 y23 false,
 Ob.nrow [] 195 y24 y25] = T52l2 (orc C k) k m q0 q1 y1 y2 y3 y4 y5 y6 y7 y8 y9 y10 y11 y12 y13 y14 y15 y16 y17 y18 y19 y20 y21 y22 y23 y24 y25 := by kernel_rfl
theorem E52l2 (y1 : Nat) (y2 : List V) (y3 : Nat) (y4 : List V) (y5 : Int) (y6 : Int) (y7 : Int) (y8 : Int) (y9 : Nat) (y10 : List V) (y11 : Nat) (y12 : List V) (y13 : Nat) (y14 : List V) (y15 : Int)
 (y16 : Int) (y17 : Int) (y18 : Nat) (y19 : List V) (y20 : Nat) (y21 : List V) (y22 : Nat) (y23 : List V) (y24 : Nat) (y25 : List V) {r : V} (h : T52l2 (orcE C) 0 0 0 0 y1 y2 y3 y4 y5 y6 y7 y8 y9 y10
 y11 y12 y13 y14 y15 y16 y17 y18 y19 y20 y21 y22 y23 y24 y25 = some r) : loopE C 52 2 [true, true, true, true, true, false, true] [] [(0, V.sl y1 y2), (1, V.sl y3 y4), (2, V.int .i64 y5), (7, V.ptr 0
 0), (8, V.ptr 1 0), (11, V.int .i64 y6)] [Ob.box 61 [V.int .i64 y7, V.int .i64 y8, V.sl y9 y10, V.sl y11 y12, V.sl y13 y14] false, Ob.box 98 [V.int .i64 y15, V.int .i64 y16, V.int .i64 y17, V.ref 2,
 V.ref 3, V.ref 4, V.ref 5] false, Ob.row 5 y18 y19 false, Ob.row 5 y20 y21 false, Ob.row 5 y22 y23 false, Ob.nrow [] 195 y24 y25] = some r := ofL (j := 0) (F := fun s => T52l2 (orc C s.k) s.k s.m 0 0
 y1 y2 y3 y4 y5 y6 y7 y8 y9 y10 y11 y12 y13 y14 y15 y16 y17 y18 y19 y20 y21 y22 y23 y24 y25) (fs0 fun k m => e52l2 k m 0 0 y1 y2 y3 y4 y5 y6 y7 y8 y9 y10 y11 y12 y13 y14 y15 y16 y17 y18 y19 y20 y21 y22
 y23 y24 y25) (by
  unfold T52l2
  repeat' first | with_reducible exact cC | with_reducible refine cN cR fun _ => ?_ | with_reducible refine cT fun _ => ?_ | with_reducible refine cI fun _ => ?_ | with_reducible refine cM ?_ | with_reducible refine cF ?_ ?_ | with_reducible refine cB fun _ => ?_ | with_reducible refine cO fun _ _ => ?_ | with_reducible refine cN cC fun _ => ?_ | with_reducible refine cW ?_ ?_ | with_reducible exact cR | exact cD0 gM) h

noncomputable def T180 (O : Orc) (k m q0 q1 : Nat) (y1 : Nat) (y2 : List V) : Option V := need (O.R 0 137 [V.sl y1 y2, V.fn 247 []]) fun x1 => asTup (some x1) fun x2 => PI.asBool x2[0]? fun x3 => some
 (V.tup [V.bool !x3])
theorem e180 (k m q0 q1 : Nat) (y1 : Nat) (y2 : List V) : runV C (k + 1) 180 [V.sl y1 y2] = T180 (orc C k) k m q0 q1 y1 y2 := by kernel_rfl
theorem E180 (y1 : Nat) (y2 : List V) {r : V} (h : T180 (orcE C) 0 0 0 0 y1 y2 = some r) : runE C 180 [V.sl y1 y2] = some r := ofR (F := fun s => T180 (orc C s.k) s.k s.m 0 0 y1 y2) (fun k => e180 k k
 0 0 y1 y2) (by
  unfold T180
  repeat' first | with_reducible exact cC | with_reducible refine cN cR fun _ => ?_ | with_reducible refine cT fun _ => ?_ | with_reducible refine cB fun _ => ?_ | with_reducible refine cN cC fun _ => ?_ | with_reducible exact cR) h

noncomputable def T92 (O : Orc) (k m q0 q1 : Nat) (y1 : Int) (y2 : Int) (y3 : Int) : Option V := bif decide (y2 ≤ y1) then some (V.tup [V.bool (decide (y1 ≤ y3))]) else some (V.tup [V.bool false])
theorem e92 (k m q0 q1 : Nat) (y1 : Int) (y2 : Int) (y3 : Int) : runV C (k + 1) 92 [V.int .i64 y1, V.int .i64 y2, V.int .i64 y3] = T92 (orc C k) k m q0 q1 y1 y2 y3 := by kernel_rfl
theorem E92 (y1 : Int) (y2 : Int) (y3 : Int) {r : V} (h : T92 (orcE C) 0 0 0 0 y1 y2 y3 = some r) : runE C 92 [V.int .i64 y1, V.int .i64 y2, V.int .i64 y3] = some r := ofR (F := fun s => T92 (orc C
 s.k) s.k s.m 0 0 y1 y2 y3) (fun k => e92 k k 0 0 y1 y2 y3) (by
  unfold T92
  repeat' first | with_reducible exact cC | with_reducible refine cF ?_ ?_) h

noncomputable def T211 (O : Orc) (k m q0 q1 : Nat) (y1 : Nat) (y2 : List V) : Option V := O.L 0 211 0 [true, false, true] [] k [(0, V.sl y1 y2), (1, V.fn 138 []), (7, V.int .i64 (↑y1 : Int)), (8, V.int
 .i64 0)] []
theorem e211 (k m q0 q1 : Nat) (y1 : Nat) (y2 : List V) : runV C (k + 1) 211 [V.sl y1 y2, V.fn 138 []] = T211 (orc C k) k m q0 q1 y1 y2 := by kernel_rfl
theorem E211 (y1 : Nat) (y2 : List V) {r : V} (h : T211 (orcE C) 0 0 0 0 y1 y2 = some r) : runE C 211 [V.sl y1 y2, V.fn 138 []] = some r := ofR (F := fun s => T211 (orc C s.k) s.k s.m 0 0 y1 y2) (fun k
 => e211 k k 0 0 y1 y2) (by
  unfold T211
  repeat' first | with_reducible exact cC | exact cD0 gK) h

noncomputable def T140 (O : Orc) (k m q0 q1 : Nat) (y1 : Int) (y2 : Int) (y3 : Nat) (y4 : List V) (y5 : Nat) (y6 : List V) (y7 : Nat) (y8 : List V) : Option V := both (both (need (O.R 0 184 [V.sl y3
 y4]) fun x1 => asTup (some x1) fun x2 => asOsl x2[0]? fun x3 x4 => both (both (need (O.R 0 184 [V.sl y5 y6]) fun x5 => asTup (some x5) fun x6 => asOsl x6[0]? fun x7 x8 => need (O.R 0 184 [V.sl y7 y8])
 fun x9 => asTup (some x9) fun x10 => asOsl x10[0]? fun x11 x12 => must (false || x4.all flatV) (must (false || x8.all flatV) (must (false || x12.all flatV) (some (V.tup [V.int .i64 y1, V.int .i64 y2,
 V.osl x3 x4, V.osl x7 x8, V.osl x11 x12]))))) (need (O.R 0 184 [V.sl y5 y6]) fun x13 => asTup (some x13) fun x14 => asOsl x14[0]? fun x15 x16 => need (O.R 0 184 [V.sl y7 y8]) fun x17 => asTup (some
 x17) fun x18 => asOsl x18[0]? fun x19 x20 => must (false || x4.all flatV) (must (false || x16.all flatV) (must (false || x20.all flatV) (some (V.tup [V.int .i64 y1, V.int .i64 y2, V.osl x3 x4, V.osl
 x15 x16, V.osl x19 x20])))))) (need (O.R 0 184 [V.sl y5 y6]) fun x21 => asTup (some x21) fun x22 => asOsl x22[0]? fun x23 x24 => need (O.R 0 184 [V.sl y7 y8]) fun x25 => asTup (some x25) fun x26 =>
 asOsl x26[0]? fun x27 x28 => must (false || x4.all flatV) (must (false || x24.all flatV) (must (false || x28.all flatV) (some (V.tup [V.int .i64 y1, V.int .i64 y2, V.osl x3 x4, V.osl x23 x24, V.osl
 x27 x28])))))) (both (both (need (O.R 0 184 [V.sl y3 y4]) fun x29 => asTup (some x29) fun x30 => asOsl x30[0]? fun x31 x32 => both (need (O.R 0 184 [V.sl y5 y6]) fun x33 => asTup (some x33) fun x34 =>
 asOsl x34[0]? fun x35 x36 => need (O.R 0 184 [V.sl y7 y8]) fun x37 => asTup (some x37) fun x38 => asOsl x38[0]? fun x39 x40 => must (false || x32.all flatV) (must (false || x36.all flatV) (must (false
 || x40.all flatV) (some (V.tup [V.int .i64 y1, V.int .i64 y2, V.osl x31 x32, V.osl x35 x36, V.osl x39 x40]))))) (need (O.R 0 184 [V.sl y5 y6]) fun x41 => asTup (some x41) fun x42 => asOsl x42[0]? fun
 x43 x44 => need (O.R 0 184 [V.sl y7 y8]) fun x45 => asTup (some x45) fun x46 => asOsl x46[0]? fun x47 x48 => must (false || x32.all flatV) (must (false || x44.all flatV) (must (false || x48.all flatV)
 (some (V.tup [V.int .i64 y1, V.int .i64 y2, V.osl x31 x32, V.osl x43 x44, V.osl x47 x48])))))) (need (O.R 0 184 [V.sl y3 y4]) fun x49 => asTup (some x49) fun x50 => asOsl x50[0]? fun x51 x52 => need
 (O.R 0 184 [V.sl y5 y6]) fun x53 => asTup (some x53) fun x54 => asOsl x54[0]? fun x55 x56 => need (O.R 0 184 [V.sl y7 y8]) fun x57 => asTup (some x57) fun x58 => asOsl x58[0]? fun x59 x60 => must
 (false || x52.all flatV) (must (false || x56.all flatV) (must (false || x60.all flatV) (some (V.tup [V.int .i64 y1, V.int .i64 y2, V.osl x51 x52, V.osl x55 x56, V.osl x59 x60])))))) (both (need (O.R 0
 184 [V.sl y3 y4]) fun x61 => asTup (some x61) fun x62 => asOsl x62[0]? fun x63 x64 => need (O.R 0 184 [V.sl y5 y6]) fun x65 => asTup (some x65) fun x66 => asOsl x66[0]? fun x67 x68 => need (O.R 0 184
 [V.sl y7 y8]) fun x69 => asTup (some x69) fun x70 => asOsl x70[0]? fun x71 x72 => must (false || x64.all flatV) (must (false || x68.all flatV) (must (false || x72.all flatV) (some (V.tup [V.int .i64
 y1, V.int .i64 y2, V.osl x63 x64, V.osl x67 x68, V.osl x71 x72]))))) (need (O.R 0 184 [V.sl y3 y4]) fun x73 => asTup (some x73) fun x74 => asOsl x74[0]? fun x75 x76 => need (O.R 0 184 [V.sl y5 y6])
 fun x77 => asTup (some x77) fun x78 => asOsl x78[0]? fun x79 x80 => need (O.R 0 184 [V.sl y7 y8]) fun x81 => asTup (some x81) fun x82 => asOsl x82[0]? fun x83 x84 => must (false || x76.all flatV)
 (must (false || x80.all flatV) (must (false || x84.all flatV) (some (V.tup [V.int .i64 y1, V.int .i64 y2, V.osl x75 x76, V.osl x79 x80, V.osl x83 x84])))))))) (both (both (both (need (O.R 0 184 [V.sl
 y3 y4]) fun x85 => asTup (some x85) fun x86 => asOsl x86[0]? fun x87 x88 => both (need (O.R 0 184 [V.sl y5 y6]) fun x89 => asTup (some x89) fun x90 => asOsl x90[0]? fun x91 x92 => need (O.R 0 184
 [V.sl y7 y8]) fun x93 => asTup (some x93) fun x94 => asOsl x94[0]? fun x95 x96 => must (false || x88.all flatV) (must (false || x92.all flatV) (must (false || x96.all flatV) (some (V.tup [V.int .i64
 y1, V.int .i64 y2, V.osl x87 x88, V.osl x91 x92, V.osl x95 x96]))))) (need (O.R 0 184 [V.sl y5 y6]) fun x97 => asTup (some x97) fun x98 => asOsl x98[0]? fun x99 x100 => need (O.R 0 184 [V.sl y7 y8])
 fun x101 => asTup (some x101) fun x102 => asOsl x102[0]? fun x103 x104 => must (false || x88.all flatV) (must (false || x100.all flatV) (must (false || x104.all flatV) (some (V.tup [V.int .i64 y1,
 V.int .i64 y2, V.osl x87 x88, V.osl x99 x100, V.osl x103 x104])))))) (need (O.R 0 184 [V.sl y3 y4]) fun x105 => asTup (some x105) fun x106 => asOsl x106[0]? fun x107 x108 => need (O.R 0 184 [V.sl y5
 y6]) fun x109 => asTup (some x109) fun x110 => asOsl x110[0]? fun x111 x112 => need (O.R 0 184 [V.sl y7 y8]) fun x113 => asTup (some x113) fun x114 => asOsl x114[0]? fun x115 x116 => must (false ||
 x108.all flatV) (must (false || x112.all flatV) (must (false || x116.all flatV) (some (V.tup [V.int .i64 y1, V.int .i64 y2, V.osl x107 x108, V.osl x111 x112, V.osl x115 x116])))))) (need (O.R 0 184
 [V.sl y3 y4]) fun x117 => asTup (some x117) fun x118 => asOsl x118[0]? fun x119 x120 => need (O.R 0 184 [V.sl y5 y6]) fun x121 => asTup (some x121) fun x122 => asOsl x122[0]? fun x123 x124 => need
 (O.R 0 184 [V.sl y7 y8]) fun x125 => asTup (some x125) fun x126 => asOsl x126[0]? fun x127 x128 => must (false || x120.all flatV) (must (false || x124.all flatV) (must (false || x128.all flatV) (some
 (V.tup [V.int .i64 y1, V.int .i64 y2, V.osl x119 x120, V.osl x123 x124, V.osl x127 x128])))))) (both (both (need (O.R 0 184 [V.sl y3 y4]) fun x129 => asTup (some x129) fun x130 => asOsl x130[0]? fun
 x131 x132 => need (O.R 0 184 [V.sl y5 y6]) fun x133 => asTup (some x133) fun x134 => asOsl x134[0]? fun x135 x136 => need (O.R 0 184 [V.sl y7 y8]) fun x137 => asTup (some x137) fun x138 => asOsl
 x138[0]? fun x139 x140 => must (false || x132.all flatV) (must (false || x136.all flatV) (must (false || x140.all flatV) (some (V.tup [V.int .i64 y1, V.int .i64 y2, V.osl x131 x132, V.osl x135 x136,
 V.osl x139 x140]))))) (need (O.R 0 184 [V.sl y3 y4]) fun x141 => asTup (some x141) fun x142 => asOsl x142[0]? fun x143 x144 => need (O.R 0 184 [V.sl y5 y6]) fun x145 => asTup (some x145) fun x146 =>
 asOsl x146[0]? fun x147 x148 => need (O.R 0 184 [V.sl y7 y8]) fun x149 => asTup (some x149) fun x150 => asOsl x150[0]? fun x151 x152 => must (false || x144.all flatV) (must (false || x148.all flatV)
 (must (false || x152.all flatV) (some (V.tup [V.int .i64 y1, V.int .i64 y2, V.osl x143 x144, V.osl x147 x148, V.osl x151 x152])))))) (need (O.R 0 184 [V.sl y3 y4]) fun x153 => asTup (some x153) fun
 x154 => asOsl x154[0]? fun x155 x156 => need (O.R 0 184 [V.sl y5 y6]) fun x157 => asTup (some x157) fun x158 => asOsl x158[0]? fun x159 x160 => need (O.R 0 184 [V.sl y7 y8]) fun x161 => asTup (some
 x161) fun x162 => asOsl x162[0]? fun x163 x164 => must (false || x156.all flatV) (must (false || x160.all flatV) (must (false || x164.all flatV) (some (V.tup [V.int .i64 y1, V.int .i64 y2, V.osl x155
 x156, V.osl x159 x160, V.osl x163 x164])))))))
theorem e140 (k m q0 q1 : Nat) (y1 : Int) (y2 : Int) (y3 : Nat) (y4 : List V) (y5 : Nat) (y6 : List V) (y7 : Nat) (y8 : List V) : runV C (k + 1) 140 [V.agg [V.int .i64 y1, V.int .i64 y2, V.sl y3 y4,
 V.sl y5 y6, V.sl y7 y8]] = T140 (orc C k) k m q0 q1 y1 y2 y3 y4 y5 y6 y7 y8 := by kernel_rfl
theorem E140 (y1 : Int) (y2 : Int) (y3 : Nat) (y4 : List V) (y5 : Nat) (y6 : List V) (y7 : Nat) (y8 : List V) {r : V} (h : T140 (orcE C) 0 0 0 0 y1 y2 y3 y4 y5 y6 y7 y8 = some r) : runE C 140 [V.agg
 [V.int .i64 y1, V.int .i64 y2, V.sl y3 y4, V.sl y5 y6, V.sl y7 y8]] = some r := ofR (F := fun s => T140 (orc C s.k) s.k s.m 0 0 y1 y2 y3 y4 y5 y6 y7 y8) (fun k => e140 k k 0 0 y1 y2 y3 y4 y5 y6 y7 y8)
 (by
  unfold T140
  repeat' first | with_reducible exact cC | with_reducible refine cN cR fun _ => ?_ | with_reducible refine cT fun _ => ?_ | with_reducible refine cM ?_ | with_reducible refine cO fun _ _ => ?_ | with_reducible refine cN cC fun _ => ?_ | with_reducible refine cW ?_ ?_ | with_reducible exact cR) h

noncomputable def T51l2 (O : Orc) (k m q0 q1 : Nat) (y1 : Nat) (y2 : List V) (y3 : Int) (y4 : Nat) (y5 : List V) (y6 : Int) (y7 : Int) (y8 : Int) (y9 : Int) (y10 : Nat) (y11 : List V) (y12 : Nat) (y13
 : List V) (y14 : Nat) (y15 : List V) (y16 : Int) (y17 : Int) (y18 : Int) (y19 : Nat) (y20 : List V) (y21 : Nat) (y22 : List V) (y23 : Nat) (y24 : List V) (y25 : Nat) (y26 : List V) (y27 : Int) (y28 :
 Int) (y29 : Nat) (y30 : List V) (y31 : Nat) (y32 : List V) (y33 : Nat) (y34 : List V) (y35 : Nat) (y36 : List V) : Option V := bif decide (y7 < y6) then must (inB y7 y4) (PI.asInt .i64 y5[y7.toNat *
 1]? fun x1 => must (inB x1 y1) (must (decide (x1.toNat * 1 < y2.length)) (need (O.R 0 142 [V.agg [V.int .i64 y8, V.int .i64 y9, V.sl y10 y11, V.sl y12 y13, V.sl y14 y15]]) fun x2 => asTup (some x2)
 fun x3 => asSl x3[0]? fun x4 x5 => asSl y2[x1.toNat * 1]? fun x6 x7 => need (O.R 0 141 [V.sl x6 x7, V.int .i64 y3, V.sl x4 x5]) fun x8 => asTup (some x8) fun x9 => PI.asInt .i64 x9[0]? fun x10 =>
 asOsl x9[1]? fun x11 x12 => PI.asInt .i64 x9[2]? fun x13 => PI.asInt .i64 x9[3]? fun x14 => asOsl x9[4]? fun x15 x16 => must (true && (y35 + 1).ble 140737488355328 && ((y35 + 1) * 80).ble
 140737488355328) (O.L 0 51 2 [true, true, true, true, true, true, false, true] [] m [(0, V.sl y1 y2), (2, V.int .i64 y3), (7, V.ptr 0 0), (8, V.ptr 1 0), (12, V.ptr 6 0), (69, V.sl y4 y5), (70, V.int
 .i64 y6), (71, V.int .i64 (IntKind.i64.wrap (y7 + 1)))] [Ob.box 61 [V.int .i64 y8, V.int .i64 y9, V.sl y10 y11, V.sl y12 y13, V.sl y14 y15] false, Ob.box 98 [V.int .i64 y16, V.int .i64 y17, V.int .i64
 y18, V.ref 2, V.ref 3, V.ref 4, V.ref 5] false, Ob.row 5 y19 y20 false, Ob.row 5 y21 y22 false, Ob.row 5 y23 y24 false, Ob.nrow [] 195 y25 y26, Ob.box 96 [V.int .i64 y27, V.int .i64 y28, V.ref 7,
 V.ref 8, V.ref 9, V.ref 10] false, Ob.row 5 y29 y30 false, Ob.row 5 y31 y32 false, Ob.row 5 y33 y34 false, Ob.nrow [] 195 (y35 + 1) (y36 ++ [V.int .i64 x1, V.int .i64 x10, V.own true 22 1 x11 x12,
 V.int .i64 x13, V.int .i64 x14, V.own true 22 1 x15 x16])])))) else must (false || y30.all flatV) (must (false || y32.all flatV) (must (false || y34.all flatV) (some (V.tup [V.int .i64 0, V.int .i64
 y27, V.int .i64 y28, V.osl y29 y30, V.osl y31 y32, V.osl y33 y34, V.osl y35 y36]))))
theorem e51l2 (k m q0 q1 : Nat) (y1 : Nat) (y2 : List V) (y3 : Int) (y4 : Nat) (y5 : List V) (y6 : Int) (y7 : Int) (y8 : Int) (y9 : Int) (y10 : Nat) (y11 : List V) (y12 : Nat) (y13 : List V) (y14 :
 Nat) (y15 : List V) (y16 : Int) (y17 : Int) (y18 : Int) (y19 : Nat) (y20 : List V) (y21 : Nat) (y22 : List V) (y23 : Nat) (y24 : List V) (y25 : Nat) (y26 : List V) (y27 : Int) (y28 : Int) (y29 : Nat)
 (y30 : List V) (y31 : Nat) (y32 : List V) (y33 : Nat) (y34 : List V) (y35 : Nat) (y36 : List V) : runL C k 51 2 [true, true, true, true, true, true, false, true] [] (m + 1) [(0, V.sl y1 y2), (2, V.int
 .i64 y3), (7, V.ptr 0 0), (8, V.ptr 1 0), (12, V.ptr 6 0), (69, V.sl y4 y5), (70, V.int .i64 y6), (71, V.int .i64 y7)] [Ob.box 61 [V.int .i64 y8, V.int .i64 y9, V.sl y10 y11, V.sl y12 y13, V.sl y14
 y15] false, Ob.box 98 [V.int .i64 y16, V.int .i64 y17, V.int .i64 y18, V.ref 2, V.ref 3, V.ref 4, V.ref 5] false, Ob.row 5 y19 y20 false, Ob.row 5 y21 y22 false, Ob.row 5 y23 y24 false, Ob.nrow [] 195
 y25 y26, Ob.box 96 [V.int .i64 y27, V.int .i64 y28, V.ref 7, V.ref 8, V.ref 9, V.ref 10] false, Ob.row 5 y29 y30 false, Ob.row 5 y31 y32 false, Ob.row 5 y33 y34 false, Ob.nrow [] 195 y35 y36] = T51l2
 (orc C k) k m q0 q1 y1 y2 y3 y4 y5 y6 y7 y8 y9 y10 y11 y12 y13 y14 y15 y16 y17 y18 y19 y20 y21 y22 y23 y24 y25 y26 y27 y28 y29 y30 y31 y32 y33 y34 y35 y36 := by kernel_rfl
theorem E51l2 (y1 : Nat) (y2 : List V) (y3 : Int) (y4 : Nat) (y5 : List V) (y6 : Int) (y7 : Int) (y8 : Int) (y9 : Int) (y10 : Nat) (y11 : List V) (y12 : Nat) (y13 : List V) (y14 : Nat) (y15 : List V)
 (y16 : Int) (y17 : Int) (y18 : Int) (y19 : Nat) (y20 : List V) (y21 : Nat) (y22 : List V) (y23 : Nat) (y24 : List V) (y25 : Nat) (y26 : List V) (y27 : Int) (y28 : Int) (y29 : Nat) (y30 : List V) (y31
 : Nat) (y32 : List V) (y33 : Nat) (y34 : List V) (y35 : Nat) (y36 : List V) {r : V} (h : T51l2 (orcE C) 0 0 0 0 y1 y2 y3 y4 y5 y6 y7 y8 y9 y10 y11 y12 y13 y14 y15 y16 y17 y18 y19 y20 y21 y22 y23 y24
 y25 y26 y27 y28 y29 y30 y31 y32 y33 y34 y35 y36 = some r) : loopE C 51 2 [true, true, true, true, true, true, false, true] [] [(0, V.sl y1 y2), (2, V.int .i64 y3), (7, V.ptr 0 0), (8, V.ptr 1 0), (12,
 V.ptr 6 0), (69, V.sl y4 y5), (70, V.int .i64 y6), (71, V.int .i64 y7)] [Ob.box 61 [V.int .i64 y8, V.int .i64 y9, V.sl y10 y11, V.sl y12 y13, V.sl y14 y15] false, Ob.box 98 [V.int .i64 y16, V.int .i64
 y17, V.int .i64 y18, V.ref 2, V.ref 3, V.ref 4, V.ref 5] false, Ob.row 5 y19 y20 false, Ob.row 5 y21 y22 false, Ob.row 5 y23 y24 false, Ob.nrow [] 195 y25 y26, Ob.box 96 [V.int .i64 y27, V.int .i64
 y28, V.ref 7, V.ref 8, V.ref 9, V.ref 10] false, Ob.row 5 y29 y30 false, Ob.row 5 y31 y32 false, Ob.row 5 y33 y34 false, Ob.nrow [] 195 y35 y36] = some r := ofL (j := 0) (F := fun s => T51l2 (orc C
 s.k) s.k s.m 0 0 y1 y2 y3 y4 y5 y6 y7 y8 y9 y10 y11 y12 y13 y14 y15 y16 y17 y18 y19 y20 y21 y22 y23 y24 y25 y26 y27 y28 y29 y30 y31 y32 y33 y34 y35 y36) (fs0 fun k m => e51l2 k m 0 0 y1 y2 y3 y4 y5 y6
 y7 y8 y9 y10 y11 y12 y13 y14 y15 y16 y17 y18 y19 y20 y21 y22 y23 y24 y25 y26 y27 y28 y29 y30 y31 y32 y33 y34 y35 y36) (by
  unfold T51l2
  repeat' first | with_reducible exact cC | with_reducible refine cN cR fun _ => ?_ | with_reducible refine cT fun _ => ?_ | with_reducible refine cI fun _ => ?_ | with_reducible refine cM ?_ | with_reducible refine cF ?_ ?_ | with_reducible refine cL fun _ _ => ?_ | with_reducible refine cO fun _ _ => ?_ | with_reducible refine cN cC fun _ => ?_ | with_reducible exact cR | exact cD0 gM) h

noncomputable def T226 (O : Orc) (k m q0 q1 : Nat) (y1 : Nat) (y2 : List V) (y3 : Nat) (y4 : List V) : Option V := bif (↑y1 : Int) != (↑y3 : Int) then some (V.tup [V.bool false]) else O.L 0 226 0
 [true, true, false, true] [] k [(0, V.sl y1 y2), (1, V.sl y3 y4), (5, V.int .i64 0)] []
theorem e226 (k m q0 q1 : Nat) (y1 : Nat) (y2 : List V) (y3 : Nat) (y4 : List V) : runV C (k + 1) 226 [V.sl y1 y2, V.sl y3 y4] = T226 (orc C k) k m q0 q1 y1 y2 y3 y4 := by kernel_rfl
theorem E226 (y1 : Nat) (y2 : List V) (y3 : Nat) (y4 : List V) {r : V} (h : T226 (orcE C) 0 0 0 0 y1 y2 y3 y4 = some r) : runE C 226 [V.sl y1 y2, V.sl y3 y4] = some r := ofR (F := fun s => T226 (orc C
 s.k) s.k s.m 0 0 y1 y2 y3 y4) (fun k => e226 k k 0 0 y1 y2 y3 y4) (by
  unfold T226
  repeat' first | with_reducible exact cC | with_reducible refine cF ?_ ?_ | exact cD0 gK) h

noncomputable def T123l1 (O : Orc) (k m q0 q1 : Nat) (y1 : Nat) (y2 : List V) (y3 : Nat) (y4 : List V) (y5 : Int) : Option V := bif decide (y5 < (↑y1 : Int)) then must (inB y5 y1) (PI.asInt .u8
 y2[y5.toNat * 1]? fun x1 => must (inB y5 y3) (PI.asInt .u8 y4[y5.toNat * 1]? fun x2 => bif x1 != x2 then some (V.tup [V.bool false]) else O.L 0 123 0 [true, true, false, true] [] m [(0, V.sl y1 y2),
 (1, V.sl y3 y4), (5, V.int .i64 (IntKind.i64.wrap (y5 + 1)))] [])) else some (V.tup [V.bool true])
theorem e123l1 (k m q0 q1 : Nat) (y1 : Nat) (y2 : List V) (y3 : Nat) (y4 : List V) (y5 : Int) : runL C k 123 0 [true, true, false, true] [] (m + 1) [(0, V.sl y1 y2), (1, V.sl y3 y4), (5, V.int .i64
 y5)] [] = T123l1 (orc C k) k m q0 q1 y1 y2 y3 y4 y5 := by kernel_rfl
theorem E123l1 (y1 : Nat) (y2 : List V) (y3 : Nat) (y4 : List V) (y5 : Int) {r : V} (h : T123l1 (orcE C) 0 0 0 0 y1 y2 y3 y4 y5 = some r) : loopE C 123 0 [true, true, false, true] [] [(0, V.sl y1 y2),
 (1, V.sl y3 y4), (5, V.int .i64 y5)] [] = some r := ofL (j := 0) (F := fun s => T123l1 (orc C s.k) s.k s.m 0 0 y1 y2 y3 y4 y5) (fs0 fun k m => e123l1 k m 0 0 y1 y2 y3 y4 y5) (by
  unfold T123l1
  repeat' first | with_reducible exact cC | with_reducible refine cI fun _ => ?_ | with_reducible refine cM ?_ | with_reducible refine cF ?_ ?_ | exact cD0 gM) h

noncomputable def T125l1 (O : Orc) (k m q0 q1 : Nat) (y1 : Int) (y2 : Int) (y3 : Nat) (y4 : List V) : Option V := bif decide (y2 < (↑y3 : Int)) then must (inB y2 y3) (must ([V.int .u8 (IntKind.u8.wrap
 y1)].length.beq 1 && (y2.toNat * 1 + [V.int .u8 (IntKind.u8.wrap y1)].length).ble y4.length) (O.X 0 125 [0] [Ob.row 5 0 [] false] 0 [true, false, true] [] m [(0, V.ref 0), (1, V.int .i64
 (IntKind.i64.wrap (y1 + 1))), (5, V.int .i64 (IntKind.i64.wrap (y2 + 1)))] [Ob.row 5 y3 (splice y4 (y2.toNat * 1) [V.int .u8 (IntKind.u8.wrap y1)]) false])) else must (false || y4.all flatV) (some
 (V.tup [V.int .i64 y1, V.osl y3 y4]))
theorem e125l1 (k m q0 q1 : Nat) (y1 : Int) (y2 : Int) (y3 : Nat) (y4 : List V) : runLW C k 125 [0] [Ob.row 5 0 [] false] 0 [true, false, true] [] (m + 1) [(0, V.ref 0), (1, V.int .i64 y1), (5, V.int
 .i64 y2)] [Ob.row 5 y3 y4 false] = T125l1 (orc C k) k m q0 q1 y1 y2 y3 y4 := by kernel_rfl
theorem E125l1 (y1 : Int) (y2 : Int) (y3 : Nat) (y4 : List V) {r : V} (h : T125l1 (orcE C) 0 0 0 0 y1 y2 y3 y4 = some r) : loopWE C 125 [0] [Ob.row 5 0 [] false] 0 [true, false, true] [] [(0, V.ref 0),
 (1, V.int .i64 y1), (5, V.int .i64 y2)] [Ob.row 5 y3 y4 false] = some r := ofX (j := 0) (F := fun s => T125l1 (orc C s.k) s.k s.m 0 0 y1 y2 y3 y4) (fs0 fun k m => e125l1 k m 0 0 y1 y2 y3 y4) (by
  unfold T125l1
  repeat' first | with_reducible exact cC | with_reducible refine cM ?_ | with_reducible refine cF ?_ ?_ | exact cX0 gM) h

noncomputable def T227 (O : Orc) (k m q0 q1 : Nat) (y1 : Int) (y2 : Nat) (y3 : List V) : Option V := O.X 0 227 [0] [Ob.nrow [] 195 0 []] 0 [true, false, true] [] k [(0, V.ref 0), (1, V.int .i64 y1),
 (5, V.int .i64 0)] [Ob.nrow [] 195 y2 y3]
theorem e227 (k m q0 q1 : Nat) (y1 : Int) (y2 : Nat) (y3 : List V) : runW C (k + 1) 227 [0] [V.ref 0, V.int .i64 y1] [Ob.nrow [] 195 y2 y3] = T227 (orc C k) k m q0 q1 y1 y2 y3 := by kernel_rfl
theorem E227 (y1 : Int) (y2 : Nat) (y3 : List V) {r : V} (h : T227 (orcE C) 0 0 0 0 y1 y2 y3 = some r) : runWE C 227 [0] [V.ref 0, V.int .i64 y1] [Ob.nrow [] 195 y2 y3] = some r := ofW (F := fun s =>
 T227 (orc C s.k) s.k s.m 0 0 y1 y2 y3) (fun k => e227 k k 0 0 y1 y2 y3) (by
  unfold T227
  repeat' first | with_reducible exact cC | exact cX0 gK) h

noncomputable def T199 (O : Orc) (k m q0 q1 : Nat) (y1 : Int) (y2 : Int) (y3 : Nat) (y4 : List V) (y5 : Nat) (y6 : List V) (y7 : Nat) (y8 : List V) (y9 : Int) : Option V := need (O.R 0 254 [V.sl y3 y4,
 V.int .i64 y9]) fun x1 => asTup (some x1) fun x2 => PI.asInt .i64 x2[0]? fun x3 => bif decide (x3 < 0) then some (V.tup [V.int .i64 (-1)]) else need (O.R 0 254 [V.sl y5 y6, V.int .i64 x3]) fun x4 =>
 asTup (some x4) fun x5 => PI.asInt .i64 x5[0]? fun x6 => bif decide (x6 < 0) then some (V.tup [V.int .i64 (-1)]) else need (O.R 0 254 [V.sl y7 y8, V.int .i64 x6]) fun x7 => asTup (some x7) fun x8 =>
 PI.asInt .i64 x8[0]? fun x9 => bif decide (x9 < 0) then some (V.tup [V.int .i64 (-1)]) else some (V.tup [V.int .i64 x9])
theorem e199 (k m q0 q1 : Nat) (y1 : Int) (y2 : Int) (y3 : Nat) (y4 : List V) (y5 : Nat) (y6 : List V) (y7 : Nat) (y8 : List V) (y9 : Int) : runV C (k + 1) 199 [V.agg [V.int .i64 y1, V.int .i64 y2,
 V.sl y3 y4, V.sl y5 y6, V.sl y7 y8], V.int .i64 y9] = T199 (orc C k) k m q0 q1 y1 y2 y3 y4 y5 y6 y7 y8 y9 := by kernel_rfl
theorem E199 (y1 : Int) (y2 : Int) (y3 : Nat) (y4 : List V) (y5 : Nat) (y6 : List V) (y7 : Nat) (y8 : List V) (y9 : Int) {r : V} (h : T199 (orcE C) 0 0 0 0 y1 y2 y3 y4 y5 y6 y7 y8 y9 = some r) : runE C
 199 [V.agg [V.int .i64 y1, V.int .i64 y2, V.sl y3 y4, V.sl y5 y6, V.sl y7 y8], V.int .i64 y9] = some r := ofR (F := fun s => T199 (orc C s.k) s.k s.m 0 0 y1 y2 y3 y4 y5 y6 y7 y8 y9) (fun k => e199 k k
 0 0 y1 y2 y3 y4 y5 y6 y7 y8 y9) (by
  unfold T199
  repeat' first | with_reducible exact cC | with_reducible refine cN cR fun _ => ?_ | with_reducible refine cT fun _ => ?_ | with_reducible refine cI fun _ => ?_ | with_reducible refine cF ?_ ?_ | with_reducible refine cN cC fun _ => ?_ | with_reducible exact cR) h

noncomputable def T228 (O : Orc) (k m q0 q1 : Nat) (y1 : Nat) (y2 : List V) (y3 : Int) : Option V := O.L 0 228 0 [true, false, true] [] k [(0, V.sl y1 y2), (1, V.int .i64 y3), (5, V.int .i64 0)] []
theorem e228 (k m q0 q1 : Nat) (y1 : Nat) (y2 : List V) (y3 : Int) : runV C (k + 1) 228 [V.sl y1 y2, V.int .i64 y3] = T228 (orc C k) k m q0 q1 y1 y2 y3 := by kernel_rfl
theorem E228 (y1 : Nat) (y2 : List V) (y3 : Int) {r : V} (h : T228 (orcE C) 0 0 0 0 y1 y2 y3 = some r) : runE C 228 [V.sl y1 y2, V.int .i64 y3] = some r := ofR (F := fun s => T228 (orc C s.k) s.k s.m 0
 0 y1 y2 y3) (fun k => e228 k k 0 0 y1 y2 y3) (by
  unfold T228
  repeat' first | with_reducible exact cC | exact cD0 gK) h

noncomputable def T144 (O : Orc) (k m q0 q1 : Nat) (y1 : Nat) (y2 : List V) (y3 : Nat) (y4 : List V) (y5 : Int) (y6 : Int) (y7 : Int) (y8 : Nat) (y9 : List V) (y10 : Nat) (y11 : List V) (y12 : Nat)
 (y13 : List V) : Option V := need (O.R 0 192 [V.agg [V.int .i64 y6, V.int .i64 y7, V.sl y8 y9, V.sl y10 y11, V.sl y12 y13]]) fun x1 => asTup (some x1) fun x2 => PI.asInt .i64 x2[0]? fun x3 => PI.asInt
 .i64 x2[1]? fun x4 => asOsl x2[2]? fun x5 x6 => asOsl x2[3]? fun x7 x8 => asOsl x2[4]? fun x9 x10 => need (O.R 0 217 [V.agg [V.int .i64 y6, V.int .i64 y7, V.sl y8 y9, V.sl y10 y11, V.sl y12 y13]]) fun
 x11 => asTup (some x11) fun x12 => asSl x12[0]? fun x13 x14 => O.L 0 144 0 [true, true, true, false, true] [] k [(0, V.sl y1 y2), (1, V.sl y3 y4), (2, V.int .i64 y5), (8, V.ptr 0 0), (9, V.ptr 5 0),
 (10, V.sl x13 x14), (11, V.int .i64 0)] [Ob.box 96 [V.int .i64 0, V.int .i64 0, V.ref 1, V.ref 2, V.ref 3, V.ref 4] false, Ob.row 5 0 [] false, Ob.row 5 0 [] false, Ob.row 5 0 [] false, Ob.nrow [] 195
 0 [], Ob.box 96 [V.int .i64 x3, V.int .i64 x4, V.ref 6, V.ref 7, V.ref 8, V.ref 9] false, Ob.row 5 x5 x6 false, Ob.row 5 x7 x8 false, Ob.row 5 x9 x10 false, Ob.nrow [] 195 0 []]
theorem e144 (k m q0 q1 : Nat) (y1 : Nat) (y2 : List V) (y3 : Nat) (y4 : List V) (y5 : Int) (y6 : Int) (y7 : Int) (y8 : Nat) (y9 : List V) (y10 : Nat) (y11 : List V) (y12 : Nat) (y13 : List V) : runV C
 (k + 1) 144 [V.sl y1 y2, V.sl y3 y4, V.int .i64 y5, V.agg [V.int .i64 y6, V.int .i64 y7, V.sl y8 y9, V.sl y10 y11, V.sl y12 y13]] = T144 (orc C k) k m q0 q1 y1 y2 y3 y4 y5 y6 y7 y8 y9 y10 y11 y12 y13
 := by kernel_rfl
theorem E144 (y1 : Nat) (y2 : List V) (y3 : Nat) (y4 : List V) (y5 : Int) (y6 : Int) (y7 : Int) (y8 : Nat) (y9 : List V) (y10 : Nat) (y11 : List V) (y12 : Nat) (y13 : List V) {r : V} (h : T144 (orcE C)
 0 0 0 0 y1 y2 y3 y4 y5 y6 y7 y8 y9 y10 y11 y12 y13 = some r) : runE C 144 [V.sl y1 y2, V.sl y3 y4, V.int .i64 y5, V.agg [V.int .i64 y6, V.int .i64 y7, V.sl y8 y9, V.sl y10 y11, V.sl y12 y13]] = some r
 := ofR (F := fun s => T144 (orc C s.k) s.k s.m 0 0 y1 y2 y3 y4 y5 y6 y7 y8 y9 y10 y11 y12 y13) (fun k => e144 k k 0 0 y1 y2 y3 y4 y5 y6 y7 y8 y9 y10 y11 y12 y13) (by
  unfold T144
  repeat' first | with_reducible exact cC | with_reducible refine cN cR fun _ => ?_ | with_reducible refine cT fun _ => ?_ | with_reducible refine cI fun _ => ?_ | with_reducible refine cL fun _ _ => ?_ | with_reducible refine cO fun _ _ => ?_ | with_reducible refine cN cC fun _ => ?_ | with_reducible exact cR | exact cD0 gK) h

noncomputable def T137s2 (O : Orc) (k m q0 q1 : Nat) (y1 : Nat) (y2 : List V) : Option V := need (O.R 0 211 [V.sl y1 y2, V.fn 247 []]) fun x1 => asTup (some x1) fun x2 => PI.asInt .i64 x2[0]? fun x3 =>
 some (V.tup [V.bool (decide (x3 ≥ 0))])
theorem e137s2 (k m q0 q1 : Nat) (y1 : Nat) (y2 : List V) : runV C (k + 1) 137 [V.sl y1 y2, V.fn 247 []] = T137s2 (orc C k) k m q0 q1 y1 y2 := by kernel_rfl
theorem E137s2 (y1 : Nat) (y2 : List V) {r : V} (h : T137s2 (orcE C) 0 0 0 0 y1 y2 = some r) : runE C 137 [V.sl y1 y2, V.fn 247 []] = some r := ofR (F := fun s => T137s2 (orc C s.k) s.k s.m 0 0 y1 y2)
 (fun k => e137s2 k k 0 0 y1 y2) (by
  unfold T137s2
  repeat' first | with_reducible exact cC | with_reducible refine cN cR fun _ => ?_ | with_reducible refine cT fun _ => ?_ | with_reducible refine cI fun _ => ?_ | with_reducible refine cN cC fun _ => ?_ | with_reducible exact cR) h

noncomputable def T211l1 (O : Orc) (k m q0 q1 : Nat) (y1 : Nat) (y2 : List V) (y3 : Int) (y4 : Int) : Option V := bif decide (y4 < y3) then must (inB y4 y1) (must (decide (y4.toNat * 1 < y2.length))
 (asSl y2[y4.toNat * 1]? fun x1 x2 => need (O.R 0 138 [V.sl x1 x2]) fun x3 => asTup (some x3) fun x4 => PI.asBool x4[0]? fun x5 => bif x5 then some (V.tup [V.int .i64 y4]) else O.L 0 211 0 [true,
 false, true] [] m [(0, V.sl y1 y2), (1, V.fn 138 []), (7, V.int .i64 y3), (8, V.int .i64 (IntKind.i64.wrap (y4 + 1)))] [])) else some (V.tup [V.int .i64 (-1)])
theorem e211l1 (k m q0 q1 : Nat) (y1 : Nat) (y2 : List V) (y3 : Int) (y4 : Int) : runL C k 211 0 [true, false, true] [] (m + 1) [(0, V.sl y1 y2), (1, V.fn 138 []), (7, V.int .i64 y3), (8, V.int .i64
 y4)] [] = T211l1 (orc C k) k m q0 q1 y1 y2 y3 y4 := by kernel_rfl
theorem E211l1 (y1 : Nat) (y2 : List V) (y3 : Int) (y4 : Int) {r : V} (h : T211l1 (orcE C) 0 0 0 0 y1 y2 y3 y4 = some r) : loopE C 211 0 [true, false, true] [] [(0, V.sl y1 y2), (1, V.fn 138 []), (7,
 V.int .i64 y3), (8, V.int .i64 y4)] [] = some r := ofL (j := 0) (F := fun s => T211l1 (orc C s.k) s.k s.m 0 0 y1 y2 y3 y4) (fs0 fun k m => e211l1 k m 0 0 y1 y2 y3 y4) (by
  unfold T211l1
  repeat' first | with_reducible exact cC | with_reducible refine cN cR fun _ => ?_ | with_reducible refine cT fun _ => ?_ | with_reducible refine cM ?_ | with_reducible refine cF ?_ ?_ | with_reducible refine cB fun _ => ?_ | with_reducible refine cL fun _ _ => ?_ | with_reducible refine cN cC fun _ => ?_ | with_reducible exact cR | exact cD0 gM) h

noncomputable def T184 (O : Orc) (k m q0 q1 : Nat) (y1 : Nat) (y2 : List V) : Option V := bif y1.beq (OfNat.ofNat 0) then both (some (V.tup [V.osl 0 []])) (must (decide (y2.length = y1 * 1)) (must
 (true && (0 + y1).ble 140737488355328 && ((0 + y1) * 1).ble 140737488355328) (must (false || y2.all flatV) (some (V.tup [V.osl (0 + y1) y2]))))) else must (decide (y2.length = y1 * 1)) (must (true &&
 (0 + y1).ble 140737488355328 && ((0 + y1) * 1).ble 140737488355328) (must (false || y2.all flatV) (some (V.tup [V.osl (0 + y1) y2]))))
theorem e184 (k m q0 q1 : Nat) (y1 : Nat) (y2 : List V) : runV C (k + 1) 184 [V.sl y1 y2] = T184 (orc C k) k m q0 q1 y1 y2 := by kernel_rfl
theorem E184 (y1 : Nat) (y2 : List V) {r : V} (h : T184 (orcE C) 0 0 0 0 y1 y2 = some r) : runE C 184 [V.sl y1 y2] = some r := ofR (F := fun s => T184 (orc C s.k) s.k s.m 0 0 y1 y2) (fun k => e184 k k
 0 0 y1 y2) (by
  unfold T184
  repeat' first | with_reducible exact cC | with_reducible refine cM ?_ | with_reducible refine cF ?_ ?_ | with_reducible refine cW ?_ ?_) h

noncomputable def T142 (O : Orc) (k m q0 q1 : Nat) (y1 : Int) (y2 : Int) (y3 : Nat) (y4 : List V) (y5 : Nat) (y6 : List V) (y7 : Nat) (y8 : List V) : Option V := need (O.R 0 102 [V.int .i64 y1]) fun x1
 => asTup (some x1) fun x2 => asSl x2[0]? fun x3 x4 => need (O.R 0 102 [V.int .i64 y2]) fun x5 => asTup (some x5) fun x6 => asSl x6[0]? fun x7 x8 => need (O.R 0 100 [V.sl 5 [V.sl x3 x4, V.sl x7 x8,
 V.sl y3 y4, V.sl y5 y6, V.sl y7 y8]]) fun x9 => asTup (some x9) fun x10 => asSl x10[0]? fun x11 x12 => need (O.R 0 216 [V.str { data := #[(98 : UInt8), (102 : UInt8), (116 : UInt8)] }, V.sl 1 [V.sl
 x11 x12]]) fun x13 => asTup (some x13) fun x14 => asOsl x14[0]? fun x15 x16 => some (V.tup [V.sl x15 x16])
theorem e142 (k m q0 q1 : Nat) (y1 : Int) (y2 : Int) (y3 : Nat) (y4 : List V) (y5 : Nat) (y6 : List V) (y7 : Nat) (y8 : List V) : runV C (k + 1) 142 [V.agg [V.int .i64 y1, V.int .i64 y2, V.sl y3 y4,
 V.sl y5 y6, V.sl y7 y8]] = T142 (orc C k) k m q0 q1 y1 y2 y3 y4 y5 y6 y7 y8 := by kernel_rfl
theorem E142 (y1 : Int) (y2 : Int) (y3 : Nat) (y4 : List V) (y5 : Nat) (y6 : List V) (y7 : Nat) (y8 : List V) {r : V} (h : T142 (orcE C) 0 0 0 0 y1 y2 y3 y4 y5 y6 y7 y8 = some r) : runE C 142 [V.agg
 [V.int .i64 y1, V.int .i64 y2, V.sl y3 y4, V.sl y5 y6, V.sl y7 y8]] = some r := ofR (F := fun s => T142 (orc C s.k) s.k s.m 0 0 y1 y2 y3 y4 y5 y6 y7 y8) (fun k => e142 k k 0 0 y1 y2 y3 y4 y5 y6 y7 y8)
 (by
  unfold T142
  repeat' first | with_reducible exact cC | with_reducible refine cN cR fun _ => ?_ | with_reducible refine cT fun _ => ?_ | with_reducible refine cL fun _ _ => ?_ | with_reducible refine cO fun _ _ => ?_ | with_reducible refine cN cC fun _ => ?_ | with_reducible exact cR) h

noncomputable def T141 (O : Orc) (k m q0 q1 : Nat) (y1 : Nat) (y2 : List V) (y3 : Int) (y4 : Nat) (y5 : List V) : Option V := need (O.R 0 146 [V.sl y1 y2]) fun x1 => asTup (some x1) fun x2 => asOsl
 x2[0]? fun x3 x4 => need (O.R 0 212 [V.sl x3 (bareL x4), V.int .i64 y3]) fun x5 => asTup (some x5) fun x6 => PI.asInt .i64 x6[0]? fun x7 => PI.asInt .i64 x6[1]? fun x8 => asOsl x6[2]? fun x9 x10 =>
 need (O.R 0 213 [V.sl y4 y5]) fun x11 => asTup (some x11) fun x12 => asOsl x12[0]? fun x13 x14 => O.L 0 141 0 [true, true, false, true] [] k [(0, V.sl y1 y2), (1, V.int .i64 y3), (6, V.ptr 0 0), (7,
 V.ptr 3 0), (17, V.ref 6), (18, V.int .i64 (↑x13 : Int)), (19, V.int .i64 0)] [Ob.box 192 [V.int .i64 0, V.ref 1, V.int .i64 0, V.int .i64 0, V.ref 2] false, Ob.nrow [] 22 0 [], Ob.nrow [] 22 0 [],
 Ob.box 192 [V.int .i64 y3, V.ref 4, V.int .i64 x7, V.int .i64 x8, V.ref 5] false, Ob.nrow [] 22 0 [], Ob.nrow [] 22 x9 x10, Ob.row 2 x13 x14 false]
theorem e141 (k m q0 q1 : Nat) (y1 : Nat) (y2 : List V) (y3 : Int) (y4 : Nat) (y5 : List V) : runV C (k + 1) 141 [V.sl y1 y2, V.int .i64 y3, V.sl y4 y5] = T141 (orc C k) k m q0 q1 y1 y2 y3 y4 y5 := by
 kernel_rfl
theorem E141 (y1 : Nat) (y2 : List V) (y3 : Int) (y4 : Nat) (y5 : List V) {r : V} (h : T141 (orcE C) 0 0 0 0 y1 y2 y3 y4 y5 = some r) : runE C 141 [V.sl y1 y2, V.int .i64 y3, V.sl y4 y5] = some r :=
 ofR (F := fun s => T141 (orc C s.k) s.k s.m 0 0 y1 y2 y3 y4 y5) (fun k => e141 k k 0 0 y1 y2 y3 y4 y5) (by
  unfold T141
  repeat' first | with_reducible exact cC | with_reducible refine cN cR fun _ => ?_ | with_reducible refine cT fun _ => ?_ | with_reducible refine cI fun _ => ?_ | with_reducible refine cO fun _ _ => ?_ | with_reducible refine cN cC fun _ => ?_ | with_reducible exact cR | exact cD0 gK) h

noncomputable def T226l1 (O : Orc) (k m q0 q1 : Nat) (y1 : Nat) (y2 : List V) (y3 : Nat) (y4 : List V) (y5 : Int) : Option V := bif decide (y5 < (↑y1 : Int)) then must (inB y5 y1) (PI.asInt .i64
 y2[y5.toNat * 6]? fun x1 => PI.asInt .i64 y2[y5.toNat * 6 + 1]? fun x2 => asSl y2[y5.toNat * 6 + 1 + 1]? fun x3 x4 => PI.asInt .i64 y2[y5.toNat * 6 + 1 + 1 + 1]? fun x5 => PI.asInt .i64 y2[y5.toNat *
 6 + 1 + 1 + 1 + 1]? fun x6 => asSl y2[y5.toNat * 6 + 1 + 1 + 1 + 1 + 1]? fun x7 x8 => must (inB y5 y3) (PI.asInt .i64 y4[y5.toNat * 6]? fun x9 => PI.asInt .i64 y4[y5.toNat * 6 + 1]? fun x10 => asSl
 y4[y5.toNat * 6 + 1 + 1]? fun x11 x12 => PI.asInt .i64 y4[y5.toNat * 6 + 1 + 1 + 1]? fun x13 => PI.asInt .i64 y4[y5.toNat * 6 + 1 + 1 + 1 + 1]? fun x14 => asSl y4[y5.toNat * 6 + 1 + 1 + 1 + 1 + 1]?
 fun x15 x16 => need (O.R 0 282 [V.agg [V.int .i64 x1, V.int .i64 x2, V.sl x3 x4, V.int .i64 x5, V.int .i64 x6, V.sl x7 x8], V.agg [V.int .i64 x9, V.int .i64 x10, V.sl x11 x12, V.int .i64 x13, V.int
 .i64 x14, V.sl x15 x16]]) fun x17 => asTup (some x17) fun x18 => PI.asBool x18[0]? fun x19 => bif !x19 then some (V.tup [V.bool false]) else O.L 0 226 0 [true, true, false, true] [] m [(0, V.sl y1
 y2), (1, V.sl y3 y4), (5, V.int .i64 (IntKind.i64.wrap (y5 + 1)))] [])) else some (V.tup [V.bool true])
theorem e226l1 (k m q0 q1 : Nat) (y1 : Nat) (y2 : List V) (y3 : Nat) (y4 : List V) (y5 : Int) : runL C k 226 0 [true, true, false, true] [] (m + 1) [(0, V.sl y1 y2), (1, V.sl y3 y4), (5, V.int .i64
 y5)] [] = T226l1 (orc C k) k m q0 q1 y1 y2 y3 y4 y5 := by kernel_rfl
theorem E226l1 (y1 : Nat) (y2 : List V) (y3 : Nat) (y4 : List V) (y5 : Int) {r : V} (h : T226l1 (orcE C) 0 0 0 0 y1 y2 y3 y4 y5 = some r) : loopE C 226 0 [true, true, false, true] [] [(0, V.sl y1 y2),
 (1, V.sl y3 y4), (5, V.int .i64 y5)] [] = some r := ofL (j := 0) (F := fun s => T226l1 (orc C s.k) s.k s.m 0 0 y1 y2 y3 y4 y5) (fs0 fun k m => e226l1 k m 0 0 y1 y2 y3 y4 y5) (by
  unfold T226l1
  repeat' first | with_reducible exact cC | with_reducible refine cN cR fun _ => ?_ | with_reducible refine cT fun _ => ?_ | with_reducible refine cI fun _ => ?_ | with_reducible refine cM ?_ | with_reducible refine cF ?_ ?_ | with_reducible refine cB fun _ => ?_ | with_reducible refine cL fun _ _ => ?_ | with_reducible refine cN cC fun _ => ?_ | with_reducible exact cR | exact cD0 gM) h

noncomputable def T227l1 (O : Orc) (k m q0 q1 : Nat) (y1 : Int) (y2 : Int) (y3 : Nat) (y4 : List V) : Option V := bif decide (y2 < (↑y3 : Int)) then must (inB y2 y3) (must ([V.int .i64 y1].length.beq 1
 && (y2.toNat * 6 + 0 + [V.int .i64 y1].length).ble y4.length) (must (inB y2 y3) (must ([V.int .i64 (IntKind.i64.wrap (y1 + 1))].length.beq 1 && (y2.toNat * 6 + 1 + 0 + [V.int .i64 (IntKind.i64.wrap
 (y1 + 1))].length).ble (splice y4 (y2.toNat * 6 + 0) [V.int .i64 y1]).length) (must (inB y2 y3) (asOwn true 22 1 (splice (splice y4 (y2.toNat * 6 + 0) [V.int .i64 y1]) (y2.toNat * 6 + 1 + 0) [V.int
 .i64 (IntKind.i64.wrap (y1 + 1))])[y2.toNat * 6 + 1 + 1]? fun x1 x2 => need (O.W 0 72 [0] [V.ref 0, V.int .i64 (IntKind.i64.wrap (IntKind.i64.wrap (y1 + 1) + 1))] [Ob.nrow [] 22 x1 x2]) fun x3 =>
 asTup (some x3) fun x4 => PI.asInt .i64 x4[0]? fun x5 => asOsl x4[1]? fun x6 x7 => must (inB y2 y3) (must ([V.int .i64 x5].length.beq 1 && (y2.toNat * 6 + 1 + 2 + 0 + [V.int .i64 x5].length).ble
 ((splice (splice y4 (y2.toNat * 6 + 0) [V.int .i64 y1]) (y2.toNat * 6 + 1 + 0) [V.int .i64 (IntKind.i64.wrap (y1 + 1))]).set (y2.toNat * 6 + 1 + 1) (V.own true 22 1 x6 x7)).length) (must (inB y2 y3)
 (must ([V.int .i64 (IntKind.i64.wrap (x5 + 1))].length.beq 1 && (y2.toNat * 6 + 1 + 2 + 1 + [V.int .i64 (IntKind.i64.wrap (x5 + 1))].length).ble (splice ((splice (splice y4 (y2.toNat * 6 + 0) [V.int
 .i64 y1]) (y2.toNat * 6 + 1 + 0) [V.int .i64 (IntKind.i64.wrap (y1 + 1))]).set (y2.toNat * 6 + 1 + 1) (V.own true 22 1 x6 x7)) (y2.toNat * 6 + 1 + 2 + 0) [V.int .i64 x5]).length) (must (inB y2 y3)
 (asOwn true 22 1 (splice (splice ((splice (splice y4 (y2.toNat * 6 + 0) [V.int .i64 y1]) (y2.toNat * 6 + 1 + 0) [V.int .i64 (IntKind.i64.wrap (y1 + 1))]).set (y2.toNat * 6 + 1 + 1) (V.own true 22 1 x6
 x7)) (y2.toNat * 6 + 1 + 2 + 0) [V.int .i64 x5]) (y2.toNat * 6 + 1 + 2 + 1) [V.int .i64 (IntKind.i64.wrap (x5 + 1))])[y2.toNat * 6 + 1 + 2 + 2]? fun x8 x9 => need (O.W 0 72 [0] [V.ref 0, V.int .i64
 (IntKind.i64.wrap (IntKind.i64.wrap (x5 + 1) + 1))] [Ob.nrow [] 22 x8 x9]) fun x10 => asTup (some x10) fun x11 => PI.asInt .i64 x11[0]? fun x12 => asOsl x11[1]? fun x13 x14 => O.X 0 227 [0] [Ob.nrow
 [] 195 0 []] 0 [true, false, true] [] m [(0, V.ref 0), (1, V.int .i64 x12), (5, V.int .i64 (IntKind.i64.wrap (y2 + 1)))] [Ob.nrow [] 195 y3 ((splice (splice ((splice (splice y4 (y2.toNat * 6 + 0)
 [V.int .i64 y1]) (y2.toNat * 6 + 1 + 0) [V.int .i64 (IntKind.i64.wrap (y1 + 1))]).set (y2.toNat * 6 + 1 + 1) (V.own true 22 1 x6 x7)) (y2.toNat * 6 + 1 + 2 + 0) [V.int .i64 x5]) (y2.toNat * 6 + 1 + 2
 + 1) [V.int .i64 (IntKind.i64.wrap (x5 + 1))]).set (y2.toNat * 6 + 1 + 2 + 2) (V.own true 22 1 x13 x14))])))))))))) else some (V.tup [V.int .i64 y1, V.osl y3 y4])
theorem e227l1 (k m q0 q1 : Nat) (y1 : Int) (y2 : Int) (y3 : Nat) (y4 : List V) : runLW C k 227 [0] [Ob.nrow [] 195 0 []] 0 [true, false, true] [] (m + 1) [(0, V.ref 0), (1, V.int .i64 y1), (5, V.int
 .i64 y2)] [Ob.nrow [] 195 y3 y4] = T227l1 (orc C k) k m q0 q1 y1 y2 y3 y4 := by kernel_rfl
theorem E227l1 (y1 : Int) (y2 : Int) (y3 : Nat) (y4 : List V) {r : V} (h : T227l1 (orcE C) 0 0 0 0 y1 y2 y3 y4 = some r) : loopWE C 227 [0] [Ob.nrow [] 195 0 []] 0 [true, false, true] [] [(0, V.ref 0),
 (1, V.int .i64 y1), (5, V.int .i64 y2)] [Ob.nrow [] 195 y3 y4] = some r := ofX (j := 0) (F := fun s => T227l1 (orc C s.k) s.k s.m 0 0 y1 y2 y3 y4) (fs0 fun k m => e227l1 k m 0 0 y1 y2 y3 y4) (by
  unfold T227l1
  repeat' first | with_reducible exact cC | with_reducible refine cN cQ fun _ => ?_ | with_reducible refine cT fun _ => ?_ | with_reducible refine cI fun _ => ?_ | with_reducible refine cM ?_ | with_reducible refine cF ?_ ?_ | with_reducible refine cO fun _ _ => ?_ | with_reducible refine cP fun _ _ => ?_ | with_reducible refine cN cC fun _ => ?_ | with_reducible exact cQ | exact cX0 gM) h

noncomputable def T254 (O : Orc) (k m q0 q1 : Nat) (y1 : Nat) (y2 : List V) (y3 : Int) : Option V := O.L 0 254 0 [true, false, true] [] k [(0, V.sl y1 y2), (1, V.int .i64 y3), (5, V.int .i64 0)] []
theorem e254 (k m q0 q1 : Nat) (y1 : Nat) (y2 : List V) (y3 : Int) : runV C (k + 1) 254 [V.sl y1 y2, V.int .i64 y3] = T254 (orc C k) k m q0 q1 y1 y2 y3 := by kernel_rfl
theorem E254 (y1 : Nat) (y2 : List V) (y3 : Int) {r : V} (h : T254 (orcE C) 0 0 0 0 y1 y2 y3 = some r) : runE C 254 [V.sl y1 y2, V.int .i64 y3] = some r := ofR (F := fun s => T254 (orc C s.k) s.k s.m 0
 0 y1 y2 y3) (fun k => e254 k k 0 0 y1 y2 y3) (by
  unfold T254
  repeat' first | with_reducible exact cC | exact cD0 gK) h

noncomputable def T228l1 (O : Orc) (k m q0 q1 : Nat) (y1 : Nat) (y2 : List V) (y3 : Int) (y4 : Int) : Option V := bif decide (y4 < (↑y1 : Int)) then must (inB y4 y1) (PI.asInt .i64 y2[y4.toNat * 6 +
 0]? fun x1 => bif x1 != y3 then some (V.tup [V.int .i64 (-1)]) else must (inB y4 y1) (PI.asInt .i64 y2[y4.toNat * 6 + 1 + 0]? fun x2 => bif x2 != IntKind.i64.wrap (y3 + 1) then some (V.tup [V.int .i64
 (-1)]) else must (inB y4 y1) (must (decide (y4.toNat * 6 + 1 + 1 < y2.length)) (asSl y2[y4.toNat * 6 + 1 + 1]? fun x3 x4 => need (O.R 0 201 [V.sl x3 x4, V.int .i64 (IntKind.i64.wrap (IntKind.i64.wrap
 (y3 + 1) + 1))]) fun x5 => asTup (some x5) fun x6 => PI.asInt .i64 x6[0]? fun x7 => bif decide (x7 < 0) then some (V.tup [V.int .i64 (-1)]) else must (inB y4 y1) (PI.asInt .i64 y2[y4.toNat * 6 + 1 + 2
 + 0]? fun x8 => bif x8 != x7 then some (V.tup [V.int .i64 (-1)]) else must (inB y4 y1) (PI.asInt .i64 y2[y4.toNat * 6 + 1 + 2 + 1]? fun x9 => bif x9 != IntKind.i64.wrap (x7 + 1) then some (V.tup
 [V.int .i64 (-1)]) else must (inB y4 y1) (must (decide (y4.toNat * 6 + 1 + 2 + 2 < y2.length)) (asSl y2[y4.toNat * 6 + 1 + 2 + 2]? fun x10 x11 => need (O.R 0 201 [V.sl x10 x11, V.int .i64
 (IntKind.i64.wrap (IntKind.i64.wrap (x7 + 1) + 1))]) fun x12 => asTup (some x12) fun x13 => PI.asInt .i64 x13[0]? fun x14 => bif decide (x14 < 0) then some (V.tup [V.int .i64 (-1)]) else O.L 0 228 0
 [true, false, true] [] m [(0, V.sl y1 y2), (1, V.int .i64 x14), (5, V.int .i64 (IntKind.i64.wrap (y4 + 1)))] [])))))))) else some (V.tup [V.int .i64 y3])
theorem e228l1 (k m q0 q1 : Nat) (y1 : Nat) (y2 : List V) (y3 : Int) (y4 : Int) : runL C k 228 0 [true, false, true] [] (m + 1) [(0, V.sl y1 y2), (1, V.int .i64 y3), (5, V.int .i64 y4)] [] = T228l1
 (orc C k) k m q0 q1 y1 y2 y3 y4 := by kernel_rfl
theorem E228l1 (y1 : Nat) (y2 : List V) (y3 : Int) (y4 : Int) {r : V} (h : T228l1 (orcE C) 0 0 0 0 y1 y2 y3 y4 = some r) : loopE C 228 0 [true, false, true] [] [(0, V.sl y1 y2), (1, V.int .i64 y3), (5,
 V.int .i64 y4)] [] = some r := ofL (j := 0) (F := fun s => T228l1 (orc C s.k) s.k s.m 0 0 y1 y2 y3 y4) (fs0 fun k m => e228l1 k m 0 0 y1 y2 y3 y4) (by
  unfold T228l1
  repeat' first | with_reducible exact cC | with_reducible refine cN cR fun _ => ?_ | with_reducible refine cT fun _ => ?_ | with_reducible refine cI fun _ => ?_ | with_reducible refine cM ?_ | with_reducible refine cF ?_ ?_ | with_reducible refine cL fun _ _ => ?_ | with_reducible refine cN cC fun _ => ?_ | with_reducible exact cR | exact cD0 gM) h

noncomputable def T192 (O : Orc) (k m q0 q1 : Nat) (y1 : Int) (y2 : Int) (y3 : Nat) (y4 : List V) (y5 : Nat) (y6 : List V) (y7 : Nat) (y8 : List V) : Option V := must (decide (y4.length = y3 * 1))
 (must (true && (0 + y3).ble 140737488355328 && ((0 + y3) * 1).ble 140737488355328) (must (decide (y6.length = y5 * 1)) (must (true && (0 + y5).ble 140737488355328 && ((0 + y5) * 1).ble
 140737488355328) (must (decide (y8.length = y7 * 1)) (must (true && (0 + y7).ble 140737488355328 && ((0 + y7) * 1).ble 140737488355328) (must (false || y4.all flatV) (must (false || y6.all flatV)
 (must (false || y8.all flatV) (some (V.tup [V.int .i64 y1, V.int .i64 y2, V.osl (0 + y3) y4, V.osl (0 + y5) y6, V.osl (0 + y7) y8]))))))))))
theorem e192 (k m q0 q1 : Nat) (y1 : Int) (y2 : Int) (y3 : Nat) (y4 : List V) (y5 : Nat) (y6 : List V) (y7 : Nat) (y8 : List V) : runV C (k + 1) 192 [V.agg [V.int .i64 y1, V.int .i64 y2, V.sl y3 y4,
 V.sl y5 y6, V.sl y7 y8]] = T192 (orc C k) k m q0 q1 y1 y2 y3 y4 y5 y6 y7 y8 := by kernel_rfl
theorem E192 (y1 : Int) (y2 : Int) (y3 : Nat) (y4 : List V) (y5 : Nat) (y6 : List V) (y7 : Nat) (y8 : List V) {r : V} (h : T192 (orcE C) 0 0 0 0 y1 y2 y3 y4 y5 y6 y7 y8 = some r) : runE C 192 [V.agg
 [V.int .i64 y1, V.int .i64 y2, V.sl y3 y4, V.sl y5 y6, V.sl y7 y8]] = some r := ofR (F := fun s => T192 (orc C s.k) s.k s.m 0 0 y1 y2 y3 y4 y5 y6 y7 y8) (fun k => e192 k k 0 0 y1 y2 y3 y4 y5 y6 y7 y8)
 (by
  unfold T192
  repeat' first | with_reducible exact cC | with_reducible refine cM ?_) h

noncomputable def T217 (O : Orc) (k m q0 q1 : Nat) (y1 : Int) (y2 : Int) (y3 : Nat) (y4 : List V) (y5 : Nat) (y6 : List V) (y7 : Nat) (y8 : List V) : Option V := need (O.R 0 143 [V.agg [V.int .i64 y1,
 V.int .i64 y2, V.sl y3 y4, V.sl y5 y6, V.sl y7 y8]]) fun x1 => asTup (some x1) fun x2 => PI.asInt .i64 x2[0]? fun x3 => bif x3 != 0 then some (V.tup [V.sl 0 []]) else need (O.R 0 188 [V.int .i64 y1])
 fun x4 => asTup (some x4) fun x5 => asSl x5[0]? fun x6 x7 => need (O.R 0 188 [V.int .i64 y2]) fun x8 => asTup (some x8) fun x9 => asSl x9[0]? fun x10 x11 => need (O.R 0 111 [V.sl 5 [V.sl x6 x7, V.sl
 x10 x11, V.sl y3 y4, V.sl y5 y6, V.sl y7 y8]]) fun x12 => asTup (some x12) fun x13 => asOsl x13[0]? fun x14 x15 => need (O.R 0 244 [V.str { data := #[(98 : UInt8), (102 : UInt8), (116 : UInt8)] },
 V.sl x14 x15]) fun x16 => asTup (some x16) fun x17 => asOsl x17[0]? fun x18 x19 => some (V.tup [V.sl x18 x19])
theorem e217 (k m q0 q1 : Nat) (y1 : Int) (y2 : Int) (y3 : Nat) (y4 : List V) (y5 : Nat) (y6 : List V) (y7 : Nat) (y8 : List V) : runV C (k + 1) 217 [V.agg [V.int .i64 y1, V.int .i64 y2, V.sl y3 y4,
 V.sl y5 y6, V.sl y7 y8]] = T217 (orc C k) k m q0 q1 y1 y2 y3 y4 y5 y6 y7 y8 := by kernel_rfl
theorem E217 (y1 : Int) (y2 : Int) (y3 : Nat) (y4 : List V) (y5 : Nat) (y6 : List V) (y7 : Nat) (y8 : List V) {r : V} (h : T217 (orcE C) 0 0 0 0 y1 y2 y3 y4 y5 y6 y7 y8 = some r) : runE C 217 [V.agg
 [V.int .i64 y1, V.int .i64 y2, V.sl y3 y4, V.sl y5 y6, V.sl y7 y8]] = some r := ofR (F := fun s => T217 (orc C s.k) s.k s.m 0 0 y1 y2 y3 y4 y5 y6 y7 y8) (fun k => e217 k k 0 0 y1 y2 y3 y4 y5 y6 y7 y8)
 (by
  unfold T217
  repeat' first | with_reducible exact cC | with_reducible refine cN cR fun _ => ?_ | with_reducible refine cT fun _ => ?_ | with_reducible refine cI fun _ => ?_ | with_reducible refine cF ?_ ?_ | with_reducible refine cL fun _ _ => ?_ | with_reducible refine cO fun _ _ => ?_ | with_reducible refine cN cC fun _ => ?_ | with_reducible exact cR) h

noncomputable def T144l1 (O : Orc) (k m q0 q1 : Nat) (y1 : Nat) (y2 : List V) (y3 : Nat) (y4 : List V) (y5 : Int) (y6 : Nat) (y7 : List V) (y8 : Int) (y9 : Int) (y10 : Int) (y11 : Nat) (y12 : List V)
 (y13 : Nat) (y14 : List V) (y15 : Nat) (y16 : List V) (y17 : Nat) (y18 : List V) (y19 : Int) (y20 : Int) (y21 : Nat) (y22 : List V) (y23 : Nat) (y24 : List V) (y25 : Nat) (y26 : List V) (y27 : Nat)
 (y28 : List V) : Option V := bif decide (y8 < (↑y3 : Int)) then must (inB y8 y3) (PI.asInt .i64 y4[y8.toNat * 1]? fun x1 => must (inB y8 y3) (PI.asInt .i64 y4[y8.toNat * 1]? fun x2 => must (inB x2 y1)
 (must (decide (x2.toNat * 1 < y2.length)) (asSl y2[x2.toNat * 1]? fun x3 x4 => need (O.R 0 218 [V.sl x3 x4, V.int .i64 y5, V.sl y6 y7]) fun x5 => asTup (some x5) fun x6 => PI.asInt .i64 x6[0]? fun x7
 => asOsl x6[1]? fun x8 x9 => PI.asInt .i64 x6[2]? fun x10 => PI.asInt .i64 x6[3]? fun x11 => asOsl x6[4]? fun x12 x13 => must (true && (y27 + 1).ble 140737488355328 && ((y27 + 1) * 80).ble
 140737488355328) (O.L 0 144 0 [true, true, true, false, true] [] m [(0, V.sl y1 y2), (1, V.sl y3 y4), (2, V.int .i64 y5), (8, V.ptr 0 0), (9, V.ptr 5 0), (10, V.sl y6 y7), (11, V.int .i64
 (IntKind.i64.wrap (y8 + 1)))] [Ob.box 96 [V.int .i64 y9, V.int .i64 y10, V.ref 1, V.ref 2, V.ref 3, V.ref 4] false, Ob.row 5 y11 y12 false, Ob.row 5 y13 y14 false, Ob.row 5 y15 y16 false, Ob.nrow []
 195 y17 y18, Ob.box 96 [V.int .i64 y19, V.int .i64 y20, V.ref 6, V.ref 7, V.ref 8, V.ref 9] false, Ob.row 5 y21 y22 false, Ob.row 5 y23 y24 false, Ob.row 5 y25 y26 false, Ob.nrow [] 195 (y27 + 1) (y28
 ++ [V.int .i64 x1, V.int .i64 x7, V.own true 22 1 x8 x9, V.int .i64 x10, V.int .i64 x11, V.own true 22 1 x12 x13])]))))) else must (false || y22.all flatV) (must (false || y24.all flatV) (must (false
 || y26.all flatV) (some (V.tup [V.int .i64 y19, V.int .i64 y20, V.osl y21 y22, V.osl y23 y24, V.osl y25 y26, V.osl y27 y28]))))
theorem e144l1 (k m q0 q1 : Nat) (y1 : Nat) (y2 : List V) (y3 : Nat) (y4 : List V) (y5 : Int) (y6 : Nat) (y7 : List V) (y8 : Int) (y9 : Int) (y10 : Int) (y11 : Nat) (y12 : List V) (y13 : Nat) (y14 :
 List V) (y15 : Nat) (y16 : List V) (y17 : Nat) (y18 : List V) (y19 : Int) (y20 : Int) (y21 : Nat) (y22 : List V) (y23 : Nat) (y24 : List V) (y25 : Nat) (y26 : List V) (y27 : Nat) (y28 : List V) : runL
 C k 144 0 [true, true, true, false, true] [] (m + 1) [(0, V.sl y1 y2), (1, V.sl y3 y4), (2, V.int .i64 y5), (8, V.ptr 0 0), (9, V.ptr 5 0), (10, V.sl y6 y7), (11, V.int .i64 y8)] [Ob.box 96 [V.int
 .i64 y9, V.int .i64 y10, V.ref 1, V.ref 2, V.ref 3, V.ref 4] false, Ob.row 5 y11 y12 false, Ob.row 5 y13 y14 false, Ob.row 5 y15 y16 false, Ob.nrow [] 195 y17 y18, Ob.box 96 [V.int .i64 y19, V.int
 .i64 y20, V.ref 6, V.ref 7, V.ref 8, V.ref 9] false, Ob.row 5 y21 y22 false, Ob.row 5 y23 y24 false, Ob.row 5 y25 y26 false, Ob.nrow [] 195 y27 y28] = T144l1 (orc C k) k m q0 q1 y1 y2 y3 y4 y5 y6 y7
 y8 y9 y10 y11 y12 y13 y14 y15 y16 y17 y18 y19 y20 y21 y22 y23 y24 y25 y26 y27 y28 := by kernel_rfl
theorem E144l1 (y1 : Nat) (y2 : List V) (y3 : Nat) (y4 : List V) (y5 : Int) (y6 : Nat) (y7 : List V) (y8 : Int) (y9 : Int) (y10 : Int) (y11 : Nat) (y12 : List V) (y13 : Nat) (y14 : List V) (y15 : Nat)
 (y16 : List V) (y17 : Nat) (y18 : List V) (y19 : Int) (y20 : Int) (y21 : Nat) (y22 : List V) (y23 : Nat) (y24 : List V) (y25 : Nat) (y26 : List V) (y27 : Nat) (y28 : List V) {r : V} (h : T144l1 (orcE
 C) 0 0 0 0 y1 y2 y3 y4 y5 y6 y7 y8 y9 y10 y11 y12 y13 y14 y15 y16 y17 y18 y19 y20 y21 y22 y23 y24 y25 y26 y27 y28 = some r) : loopE C 144 0 [true, true, true, false, true] [] [(0, V.sl y1 y2), (1,
 V.sl y3 y4), (2, V.int .i64 y5), (8, V.ptr 0 0), (9, V.ptr 5 0), (10, V.sl y6 y7), (11, V.int .i64 y8)] [Ob.box 96 [V.int .i64 y9, V.int .i64 y10, V.ref 1, V.ref 2, V.ref 3, V.ref 4] false, Ob.row 5
 y11 y12 false, Ob.row 5 y13 y14 false, Ob.row 5 y15 y16 false, Ob.nrow [] 195 y17 y18, Ob.box 96 [V.int .i64 y19, V.int .i64 y20, V.ref 6, V.ref 7, V.ref 8, V.ref 9] false, Ob.row 5 y21 y22 false,
 Ob.row 5 y23 y24 false, Ob.row 5 y25 y26 false, Ob.nrow [] 195 y27 y28] = some r := ofL (j := 0) (F := fun s => T144l1 (orc C s.k) s.k s.m 0 0 y1 y2 y3 y4 y5 y6 y7 y8 y9 y10 y11 y12 y13 y14 y15 y16
 y17 y18 y19 y20 y21 y22 y23 y24 y25 y26 y27 y28) (fs0 fun k m => e144l1 k m 0 0 y1 y2 y3 y4 y5 y6 y7 y8 y9 y10 y11 y12 y13 y14 y15 y16 y17 y18 y19 y20 y21 y22 y23 y24 y25 y26 y27 y28) (by
  unfold T144l1
  repeat' first | with_reducible exact cC | with_reducible refine cN cR fun _ => ?_ | with_reducible refine cT fun _ => ?_ | with_reducible refine cI fun _ => ?_ | with_reducible refine cM ?_ | with_reducible refine cF ?_ ?_ | with_reducible refine cL fun _ _ => ?_ | with_reducible refine cO fun _ _ => ?_ | with_reducible refine cN cC fun _ => ?_ | with_reducible exact cR | exact cD0 gM) h

noncomputable def T211s2 (O : Orc) (k m q0 q1 : Nat) (y1 : Nat) (y2 : List V) : Option V := O.L 0 211 0 [true, false, true] [] k [(0, V.sl y1 y2), (1, V.fn 247 []), (7, V.int .i64 (↑y1 : Int)), (8,
 V.int .i64 0)] []
theorem e211s2 (k m q0 q1 : Nat) (y1 : Nat) (y2 : List V) : runV C (k + 1) 211 [V.sl y1 y2, V.fn 247 []] = T211s2 (orc C k) k m q0 q1 y1 y2 := by kernel_rfl
theorem E211s2 (y1 : Nat) (y2 : List V) {r : V} (h : T211s2 (orcE C) 0 0 0 0 y1 y2 = some r) : runE C 211 [V.sl y1 y2, V.fn 247 []] = some r := ofR (F := fun s => T211s2 (orc C s.k) s.k s.m 0 0 y1 y2)
 (fun k => e211s2 k k 0 0 y1 y2) (by
  unfold T211s2
  repeat' first | with_reducible exact cC | exact cD0 gK) h

noncomputable def T138 (O : Orc) (k m q0 q1 : Nat) (y1 : Nat) (y2 : List V) : Option V := some (V.tup [V.bool (decide ((↑y1 : Int) > 200))])
theorem e138 (k m q0 q1 : Nat) (y1 : Nat) (y2 : List V) : runV C (k + 1) 138 [V.sl y1 y2] = T138 (orc C k) k m q0 q1 y1 y2 := by kernel_rfl
theorem E138 (y1 : Nat) (y2 : List V) {r : V} (h : T138 (orcE C) 0 0 0 0 y1 y2 = some r) : runE C 138 [V.sl y1 y2] = some r := ofR (F := fun s => T138 (orc C s.k) s.k s.m 0 0 y1 y2) (fun k => e138 k k
 0 0 y1 y2) (by
  unfold T138
  exact cC) h

noncomputable def T102 (O : Orc) (k m q0 q1 : Nat) (y1 : Int) : Option V := O.L 0 102 0 [true, true, false, true] [] k [(0, V.int .i64 y1), (3, V.ref 0), (4, V.int .i64 6)] [Ob.row 5 7 [V.int .u8 0,
 V.int .u8 0, V.int .u8 0, V.int .u8 0, V.int .u8 0, V.int .u8 0, V.int .u8 0] false]
theorem e102 (k m q0 q1 : Nat) (y1 : Int) : runV C (k + 1) 102 [V.int .i64 y1] = T102 (orc C k) k m q0 q1 y1 := by kernel_rfl
theorem E102 (y1 : Int) {r : V} (h : T102 (orcE C) 0 0 0 0 y1 = some r) : runE C 102 [V.int .i64 y1] = some r := ofR (F := fun s => T102 (orc C s.k) s.k s.m 0 0 y1) (fun k => e102 k k 0 0 y1) (by
  unfold T102
  repeat' first | with_reducible exact cC | exact cD0 gK) h

noncomputable def T100 (O : Orc) (k m q0 q1 : Nat) (y1 : Nat) (y2 : List V) : Option V := need (O.R 0 182 [V.sl y1 y2]) fun x1 => asTup (some x1) fun x2 => asSl x2[0]? fun x3 x4 => PI.asBool x2[1]? fun
 x5 => some (V.tup [V.sl x3 x4])
theorem e100 (k m q0 q1 : Nat) (y1 : Nat) (y2 : List V) : runV C (k + 1) 100 [V.sl y1 y2] = T100 (orc C k) k m q0 q1 y1 y2 := by kernel_rfl
theorem E100 (y1 : Nat) (y2 : List V) {r : V} (h : T100 (orcE C) 0 0 0 0 y1 y2 = some r) : runE C 100 [V.sl y1 y2] = some r := ofR (F := fun s => T100 (orc C s.k) s.k s.m 0 0 y1 y2) (fun k => e100 k k
 0 0 y1 y2) (by
  unfold T100
  repeat' first | with_reducible exact cC | with_reducible refine cN cR fun _ => ?_ | with_reducible refine cT fun _ => ?_ | with_reducible refine cB fun _ => ?_ | with_reducible refine cL fun _ _ => ?_ | with_reducible refine cN cC fun _ => ?_ | with_reducible exact cR) h

noncomputable def T216 (O : Orc) (k m q0 q1 : Nat) (y1 : ByteArray) (y2 : Nat) (y3 : List V) : Option V := must (y1.size.ble 140737488355328) (must (decide (y3.length = y2 * 1)) (must (true && (2 +
 y2).ble 140737488355328 && ((2 + y2) * 24).ble 140737488355328) (need (O.R 0 183 [V.sl (2 + y2) (V.sl 1 [V.int .u8 (IntKind.u8.wrap (↑y1.size : Int))] :: V.sl y1.size (bytesV y1.data.toList) :: y3)])
 fun x1 => asTup (some x1) fun x2 => asOsl x2[0]? fun x3 x4 => must (false || x4.all flatV) (some (V.tup [V.osl x3 x4])))))
theorem e216 (k m q0 q1 : Nat) (y1 : ByteArray) (y2 : Nat) (y3 : List V) : runV C (k + 1) 216 [V.str y1, V.sl y2 y3] = T216 (orc C k) k m q0 q1 y1 y2 y3 := by kernel_rfl
theorem E216 (y1 : ByteArray) (y2 : Nat) (y3 : List V) {r : V} (h : T216 (orcE C) 0 0 0 0 y1 y2 y3 = some r) : runE C 216 [V.str y1, V.sl y2 y3] = some r := ofR (F := fun s => T216 (orc C s.k) s.k s.m
 0 0 y1 y2 y3) (fun k => e216 k k 0 0 y1 y2 y3) (by
  unfold T216
  repeat' first | with_reducible exact cC | with_reducible refine cN cR fun _ => ?_ | with_reducible refine cT fun _ => ?_ | with_reducible refine cM ?_ | with_reducible refine cO fun _ _ => ?_ | with_reducible refine cN cC fun _ => ?_ | with_reducible exact cR) h

noncomputable def T146 (O : Orc) (k m q0 q1 : Nat) (y1 : Nat) (y2 : List V) : Option V := O.L 0 146 0 [true, true, false, true] [] k [(0, V.sl y1 y2), (3, V.ref 0), (6, V.int .i64 0)] [Ob.nrow [] 22 0
 []]
theorem e146 (k m q0 q1 : Nat) (y1 : Nat) (y2 : List V) : runV C (k + 1) 146 [V.sl y1 y2] = T146 (orc C k) k m q0 q1 y1 y2 := by kernel_rfl
theorem E146 (y1 : Nat) (y2 : List V) {r : V} (h : T146 (orcE C) 0 0 0 0 y1 y2 = some r) : runE C 146 [V.sl y1 y2] = some r := ofR (F := fun s => T146 (orc C s.k) s.k s.m 0 0 y1 y2) (fun k => e146 k k
 0 0 y1 y2) (by
  unfold T146
  repeat' first | with_reducible exact cC | exact cD0 gK) h

noncomputable def T212 (O : Orc) (k m q0 q1 : Nat) (y1 : Nat) (y2 : List V) (y3 : Int) : Option V := need (O.R 0 271 [V.sl y1 y2, V.int .i64 y3]) fun x1 => asTup (some x1) fun x2 => asOsl x2[0]? fun x3
 x4 => some (V.tup [V.int .i64 y3, V.int .i64 (↑y1 : Int), V.osl x3 x4])
theorem e212 (k m q0 q1 : Nat) (y1 : Nat) (y2 : List V) (y3 : Int) : runV C (k + 1) 212 [V.sl y1 y2, V.int .i64 y3] = T212 (orc C k) k m q0 q1 y1 y2 y3 := by kernel_rfl
theorem E212 (y1 : Nat) (y2 : List V) (y3 : Int) {r : V} (h : T212 (orcE C) 0 0 0 0 y1 y2 y3 = some r) : runE C 212 [V.sl y1 y2, V.int .i64 y3] = some r := ofR (F := fun s => T212 (orc C s.k) s.k s.m 0
 0 y1 y2 y3) (fun k => e212 k k 0 0 y1 y2 y3) (by
  unfold T212
  repeat' first | with_reducible exact cC | with_reducible refine cN cR fun _ => ?_ | with_reducible refine cT fun _ => ?_ | with_reducible refine cO fun _ _ => ?_ | with_reducible refine cN cC fun _ => ?_ | with_reducible exact cR) h

noncomputable def T213 (O : Orc) (k m q0 q1 : Nat) (y1 : Nat) (y2 : List V) : Option V := need (O.R 0 216 [V.str { data := #[(109 : UInt8), (101 : UInt8), (115 : UInt8), (115 : UInt8), (97 : UInt8),
 (103 : UInt8), (101 : UInt8)] }, V.sl 1 [V.sl y1 y2]]) fun x1 => asTup (some x1) fun x2 => asOsl x2[0]? fun x3 x4 => must (true && decide (4 ≤ (↑x3 : Int))) (O.L 0 213 0 [true, true, false, true] [] k
 [(3, V.ref 0), (4, V.int .i64 0), (13, V.sl 4 (List.take 4 (List.drop 0 x4))), (14, V.int .i64 4), (15, V.int .i64 0)] [Ob.row 2 0 [] false])
theorem e213 (k m q0 q1 : Nat) (y1 : Nat) (y2 : List V) : runV C (k + 1) 213 [V.sl y1 y2] = T213 (orc C k) k m q0 q1 y1 y2 := by kernel_rfl
theorem E213 (y1 : Nat) (y2 : List V) {r : V} (h : T213 (orcE C) 0 0 0 0 y1 y2 = some r) : runE C 213 [V.sl y1 y2] = some r := ofR (F := fun s => T213 (orc C s.k) s.k s.m 0 0 y1 y2) (fun k => e213 k k
 0 0 y1 y2) (by
  unfold T213
  repeat' first | with_reducible exact cC | with_reducible refine cN cR fun _ => ?_ | with_reducible refine cT fun _ => ?_ | with_reducible refine cM ?_ | with_reducible refine cO fun _ _ => ?_ | with_reducible refine cN cC fun _ => ?_ | with_reducible exact cR | exact cD0 gK) h

noncomputable def T141l1 (O : Orc) (k m q0 q1 : Nat) (y1 : Nat) (y2 : List V) (y3 : Int) (y4 : Int) (y5 : Int) (y6 : Int) (y7 : Int) (y8 : Int) (y9 : Nat) (y10 : List V) (y11 : Nat) (y12 : List V) (y13
 : Int) (y14 : Int) (y15 : Int) (y16 : Nat) (y17 : List V) (y18 : Nat) (y19 : List V) (y20 : Nat) (y21 : List V) : Option V := bif decide (y5 < y4) then must (inB y5 y20) (PI.asInt .i64 y21[y5.toNat *
 1]? fun x1 => need (O.R 0 215 [V.sl y1 y2, V.int .i64 y3, V.int .i64 y5]) fun x2 => asTup (some x2) fun x3 => asOsl x3[0]? fun x4 x5 => need (O.R 0 214 [V.sl x4 x5, V.int .i64 x1]) fun x6 => asTup
 (some x6) fun x7 => asOsl x7[0]? fun x8 x9 => must (x9.all flatV) (must (true && (y16 + 1).ble 140737488355328 && ((y16 + 1) * 24).ble 140737488355328) (O.L 0 141 0 [true, true, false, true] [] m [(0,
 V.sl y1 y2), (1, V.int .i64 y3), (6, V.ptr 0 0), (7, V.ptr 3 0), (17, V.ref 6), (18, V.int .i64 y4), (19, V.int .i64 (IntKind.i64.wrap (y5 + 1)))] [Ob.box 192 [V.int .i64 y6, V.ref 1, V.int .i64 y7,
 V.int .i64 y8, V.ref 2] false, Ob.nrow [] 22 y9 y10, Ob.nrow [] 22 y11 y12, Ob.box 192 [V.int .i64 y13, V.ref 4, V.int .i64 y14, V.int .i64 y15, V.ref 5] false, Ob.nrow [] 22 (y16 + 1) (y17 ++ [V.own
 false 5 1 x8 x9]), Ob.nrow [] 22 y18 y19, Ob.row 2 y20 y21 false]))) else some (V.tup [V.int .i64 y13, V.osl y16 y17, V.int .i64 y14, V.int .i64 y15, V.osl y18 y19])
theorem e141l1 (k m q0 q1 : Nat) (y1 : Nat) (y2 : List V) (y3 : Int) (y4 : Int) (y5 : Int) (y6 : Int) (y7 : Int) (y8 : Int) (y9 : Nat) (y10 : List V) (y11 : Nat) (y12 : List V) (y13 : Int) (y14 : Int)
 (y15 : Int) (y16 : Nat) (y17 : List V) (y18 : Nat) (y19 : List V) (y20 : Nat) (y21 : List V) : runL C k 141 0 [true, true, false, true] [] (m + 1) [(0, V.sl y1 y2), (1, V.int .i64 y3), (6, V.ptr 0 0),
 (7, V.ptr 3 0), (17, V.ref 6), (18, V.int .i64 y4), (19, V.int .i64 y5)] [Ob.box 192 [V.int .i64 y6, V.ref 1, V.int .i64 y7, V.int .i64 y8, V.ref 2] false, Ob.nrow [] 22 y9 y10, Ob.nrow [] 22 y11 y12,
 Ob.box 192 [V.int .i64 y13, V.ref 4, V.int .i64 y14, V.int .i64 y15, V.ref 5] false, Ob.nrow [] 22 y16 y17, Ob.nrow [] 22 y18 y19, Ob.row 2 y20 y21 false] = T141l1 (orc C k) k m q0 q1 y1 y2 y3 y4 y5
 y6 y7 y8 y9 y10 y11 y12 y13 y14 y15 y16 y17 y18 y19 y20 y21 := by kernel_rfl
theorem E141l1 (y1 : Nat) (y2 : List V) (y3 : Int) (y4 : Int) (y5 : Int) (y6 : Int) (y7 : Int) (y8 : Int) (y9 : Nat) (y10 : List V) (y11 : Nat) (y12 : List V) (y13 : Int) (y14 : Int) (y15 : Int) (y16 :
 Nat) (y17 : List V) (y18 : Nat) (y19 : List V) (y20 : Nat) (y21 : List V) {r : V} (h : T141l1 (orcE C) 0 0 0 0 y1 y2 y3 y4 y5 y6 y7 y8 y9 y10 y11 y12 y13 y14 y15 y16 y17 y18 y19 y20 y21 = some r) :
 loopE C 141 0 [true, true, false, true] [] [(0, V.sl y1 y2), (1, V.int .i64 y3), (6, V.ptr 0 0), (7, V.ptr 3 0), (17, V.ref 6), (18, V.int .i64 y4), (19, V.int .i64 y5)] [Ob.box 192 [V.int .i64 y6,
 V.ref 1, V.int .i64 y7, V.int .i64 y8, V.ref 2] false, Ob.nrow [] 22 y9 y10, Ob.nrow [] 22 y11 y12, Ob.box 192 [V.int .i64 y13, V.ref 4, V.int .i64 y14, V.int .i64 y15, V.ref 5] false, Ob.nrow [] 22
 y16 y17, Ob.nrow [] 22 y18 y19, Ob.row 2 y20 y21 false] = some r := ofL (j := 0) (F := fun s => T141l1 (orc C s.k) s.k s.m 0 0 y1 y2 y3 y4 y5 y6 y7 y8 y9 y10 y11 y12 y13 y14 y15 y16 y17 y18 y19 y20
 y21) (fs0 fun k m => e141l1 k m 0 0 y1 y2 y3 y4 y5 y6 y7 y8 y9 y10 y11 y12 y13 y14 y15 y16 y17 y18 y19 y20 y21) (by
  unfold T141l1
  repeat' first | with_reducible exact cC | with_reducible refine cN cR fun _ => ?_ | with_reducible refine cT fun _ => ?_ | with_reducible refine cI fun _ => ?_ | with_reducible refine cM ?_ | with_reducible refine cF ?_ ?_ | with_reducible refine cO fun _ _ => ?_ | with_reducible refine cN cC fun _ => ?_ | with_reducible exact cR | exact cD0 gM) h

noncomputable def T282 (O : Orc) (k m q0 q1 : Nat) (y1 : Int) (y2 : Int) (y3 : Nat) (y4 : List V) (y5 : Int) (y6 : Int) (y7 : Nat) (y8 : List V) (y9 : Int) (y10 : Int) (y11 : Nat) (y12 : List V) (y13 :
 Int) (y14 : Int) (y15 : Nat) (y16 : List V) : Option V := bif y1 != y9 then some (V.tup [V.bool false]) else need (O.R 0 301 [V.agg [V.int .i64 y2, V.sl y3 y4, V.int .i64 y5, V.int .i64 y6, V.sl y7
 y8], V.agg [V.int .i64 y10, V.sl y11 y12, V.int .i64 y13, V.int .i64 y14, V.sl y15 y16]]) fun x1 => asTup (some x1) fun x2 => PI.asBool x2[0]? fun x3 => bif !x3 then some (V.tup [V.bool false]) else
 some (V.tup [V.bool true])
theorem e282 (k m q0 q1 : Nat) (y1 : Int) (y2 : Int) (y3 : Nat) (y4 : List V) (y5 : Int) (y6 : Int) (y7 : Nat) (y8 : List V) (y9 : Int) (y10 : Int) (y11 : Nat) (y12 : List V) (y13 : Int) (y14 : Int)
 (y15 : Nat) (y16 : List V) : runV C (k + 1) 282 [V.agg [V.int .i64 y1, V.int .i64 y2, V.sl y3 y4, V.int .i64 y5, V.int .i64 y6, V.sl y7 y8], V.agg [V.int .i64 y9, V.int .i64 y10, V.sl y11 y12, V.int
 .i64 y13, V.int .i64 y14, V.sl y15 y16]] = T282 (orc C k) k m q0 q1 y1 y2 y3 y4 y5 y6 y7 y8 y9 y10 y11 y12 y13 y14 y15 y16 := by kernel_rfl
theorem E282 (y1 : Int) (y2 : Int) (y3 : Nat) (y4 : List V) (y5 : Int) (y6 : Int) (y7 : Nat) (y8 : List V) (y9 : Int) (y10 : Int) (y11 : Nat) (y12 : List V) (y13 : Int) (y14 : Int) (y15 : Nat) (y16 :
 List V) {r : V} (h : T282 (orcE C) 0 0 0 0 y1 y2 y3 y4 y5 y6 y7 y8 y9 y10 y11 y12 y13 y14 y15 y16 = some r) : runE C 282 [V.agg [V.int .i64 y1, V.int .i64 y2, V.sl y3 y4, V.int .i64 y5, V.int .i64 y6,
 V.sl y7 y8], V.agg [V.int .i64 y9, V.int .i64 y10, V.sl y11 y12, V.int .i64 y13, V.int .i64 y14, V.sl y15 y16]] = some r := ofR (F := fun s => T282 (orc C s.k) s.k s.m 0 0 y1 y2 y3 y4 y5 y6 y7 y8 y9
 y10 y11 y12 y13 y14 y15 y16) (fun k => e282 k k 0 0 y1 y2 y3 y4 y5 y6 y7 y8 y9 y10 y11 y12 y13 y14 y15 y16) (by
  unfold T282
  repeat' first | with_reducible exact cC | with_reducible refine cN cR fun _ => ?_ | with_reducible refine cT fun _ => ?_ | with_reducible refine cF ?_ ?_ | with_reducible refine cB fun _ => ?_ | with_reducible refine cN cC fun _ => ?_ | with_reducible exact cR) h

noncomputable def T254l1 (O : Orc) (k m q0 q1 : Nat) (y1 : Nat) (y2 : List V) (y3 : Int) (y4 : Int) : Option V := bif decide (y4 < (↑y1 : Int)) then must (inB y4 y1) (PI.asInt .u8 y2[y4.toNat * 1]? fun
 x1 => bif x1 != IntKind.u8.wrap y3 then some (V.tup [V.int .i64 (-1)]) else O.L 0 254 0 [true, false, true] [] m [(0, V.sl y1 y2), (1, V.int .i64 (IntKind.i64.wrap (y3 + 1))), (5, V.int .i64
 (IntKind.i64.wrap (y4 + 1)))] []) else some (V.tup [V.int .i64 y3])
theorem e254l1 (k m q0 q1 : Nat) (y1 : Nat) (y2 : List V) (y3 : Int) (y4 : Int) : runL C k 254 0 [true, false, true] [] (m + 1) [(0, V.sl y1 y2), (1, V.int .i64 y3), (5, V.int .i64 y4)] [] = T254l1
 (orc C k) k m q0 q1 y1 y2 y3 y4 := by kernel_rfl
theorem E254l1 (y1 : Nat) (y2 : List V) (y3 : Int) (y4 : Int) {r : V} (h : T254l1 (orcE C) 0 0 0 0 y1 y2 y3 y4 = some r) : loopE C 254 0 [true, false, true] [] [(0, V.sl y1 y2), (1, V.int .i64 y3), (5,
 V.int .i64 y4)] [] = some r := ofL (j := 0) (F := fun s => T254l1 (orc C s.k) s.k s.m 0 0 y1 y2 y3 y4) (fs0 fun k m => e254l1 k m 0 0 y1 y2 y3 y4) (by
  unfold T254l1
  repeat' first | with_reducible exact cC | with_reducible refine cI fun _ => ?_ | with_reducible refine cM ?_ | with_reducible refine cF ?_ ?_ | exact cD0 gM) h

noncomputable def T201 (O : Orc) (k m q0 q1 : Nat) (y1 : Nat) (y2 : List V) (y3 : Int) : Option V := O.L 0 201 0 [true, false, true] [] k [(0, V.sl y1 y2), (1, V.int .i64 y3), (5, V.int .i64 0)] []
theorem e201 (k m q0 q1 : Nat) (y1 : Nat) (y2 : List V) (y3 : Int) : runV C (k + 1) 201 [V.sl y1 y2, V.int .i64 y3] = T201 (orc C k) k m q0 q1 y1 y2 y3 := by kernel_rfl
theorem E201 (y1 : Nat) (y2 : List V) (y3 : Int) {r : V} (h : T201 (orcE C) 0 0 0 0 y1 y2 y3 = some r) : runE C 201 [V.sl y1 y2, V.int .i64 y3] = some r := ofR (F := fun s => T201 (orc C s.k) s.k s.m 0
 0 y1 y2 y3) (fun k => e201 k k 0 0 y1 y2 y3) (by
  unfold T201
  repeat' first | with_reducible exact cC | exact cD0 gK) h

noncomputable def T188 (O : Orc) (k m q0 q1 : Nat) (y1 : Int) : Option V := O.L 0 188 0 [true, true, false, true] [] k [(0, V.int .i64 y1), (3, V.ref 0), (4, V.int .i64 6)] [Ob.row 5 0 [] false]
theorem e188 (k m q0 q1 : Nat) (y1 : Int) : runV C (k + 1) 188 [V.int .i64 y1] = T188 (orc C k) k m q0 q1 y1 := by kernel_rfl
theorem E188 (y1 : Int) {r : V} (h : T188 (orcE C) 0 0 0 0 y1 = some r) : runE C 188 [V.int .i64 y1] = some r := ofR (F := fun s => T188 (orc C s.k) s.k s.m 0 0 y1) (fun k => e188 k k 0 0 y1) (by
  unfold T188
  repeat' first | with_reducible exact cC | exact cD0 gK) h

noncomputable def T111 (O : Orc) (k m q0 q1 : Nat) (y1 : Nat) (y2 : List V) : Option V := O.L 0 111 0 [true, true, false, true] [] k [(0, V.sl y1 y2), (3, V.ref 0), (4, V.int .i64 0)] [Ob.row 5 0 []
 false]
theorem e111 (k m q0 q1 : Nat) (y1 : Nat) (y2 : List V) : runV C (k + 1) 111 [V.sl y1 y2] = T111 (orc C k) k m q0 q1 y1 y2 := by kernel_rfl
theorem E111 (y1 : Nat) (y2 : List V) {r : V} (h : T111 (orcE C) 0 0 0 0 y1 y2 = some r) : runE C 111 [V.sl y1 y2] = some r := ofR (F := fun s => T111 (orc C s.k) s.k s.m 0 0 y1 y2) (fun k => e111 k k
 0 0 y1 y2) (by
  unfold T111
  repeat' first | with_reducible exact cC | exact cD0 gK) h

noncomputable def T244 (O : Orc) (k m q0 q1 : Nat) (y1 : ByteArray) (y2 : Nat) (y3 : List V) : Option V := must (y1.size.ble 140737488355328) (must (decide ((bytesV y1.data.toList).length = y1.size *
 1)) (must (true && (1 + y1.size).ble 140737488355328 && ((1 + y1.size) * 1).ble 140737488355328) (must (decide (y3.length = y2 * 1)) (must (true && (1 + y1.size + y2).ble 140737488355328 && ((1 +
 y1.size + y2) * 1).ble 140737488355328) (need (O.R 0 187 [V.sl (1 + y1.size + y2) (V.int .u8 (IntKind.u8.wrap ((↑y1.size : Int).tmod 256)) :: bytesV y1.data.toList ++ y3)]) fun x1 => asTup (some x1)
 fun x2 => asOsl x2[0]? fun x3 x4 => must (false || x4.all flatV) (some (V.tup [V.osl x3 x4])))))))
theorem e244 (k m q0 q1 : Nat) (y1 : ByteArray) (y2 : Nat) (y3 : List V) : runV C (k + 1) 244 [V.str y1, V.sl y2 y3] = T244 (orc C k) k m q0 q1 y1 y2 y3 := by kernel_rfl
theorem E244 (y1 : ByteArray) (y2 : Nat) (y3 : List V) {r : V} (h : T244 (orcE C) 0 0 0 0 y1 y2 y3 = some r) : runE C 244 [V.str y1, V.sl y2 y3] = some r := ofR (F := fun s => T244 (orc C s.k) s.k s.m
 0 0 y1 y2 y3) (fun k => e244 k k 0 0 y1 y2 y3) (by
  unfold T244
  repeat' first | with_reducible exact cC | with_reducible refine cN cR fun _ => ?_ | with_reducible refine cT fun _ => ?_ | with_reducible refine cM ?_ | with_reducible refine cO fun _ _ => ?_ | with_reducible refine cN cC fun _ => ?_ | with_reducible exact cR) h

noncomputable def T218 (O : Orc) (k m q0 q1 : Nat) (y1 : Nat) (y2 : List V) (y3 : Int) (y4 : Nat) (y5 : List V) : Option V := need (O.R 0 274 [V.sl y1 y2]) fun x1 => asTup (some x1) fun x2 => asOsl
 x2[0]? fun x3 x4 => need (O.R 0 273 [V.sl x3 (bareL x4), V.int .i64 y3]) fun x5 => asTup (some x5) fun x6 => PI.asInt .i64 x6[0]? fun x7 => PI.asInt .i64 x6[1]? fun x8 => asOsl x6[2]? fun x9 x10 =>
 need (O.R 0 275 [V.sl y4 y5]) fun x11 => asTup (some x11) fun x12 => asOsl x12[0]? fun x13 x14 => O.L 0 218 0 [true, true, true, false, true] [] k [(0, V.sl y1 y2), (1, V.int .i64 y3), (6, V.ptr 0 0),
 (7, V.ptr 3 0), (8, V.ref 6), (9, V.int .i64 0)] [Ob.box 192 [V.int .i64 0, V.ref 1, V.int .i64 0, V.int .i64 0, V.ref 2] false, Ob.nrow [] 22 0 [], Ob.nrow [] 22 0 [], Ob.box 192 [V.int .i64 y3,
 V.ref 4, V.int .i64 x7, V.int .i64 x8, V.ref 5] false, Ob.nrow [] 22 0 [], Ob.nrow [] 22 x9 x10, Ob.row 2 x13 x14 false]
theorem e218 (k m q0 q1 : Nat) (y1 : Nat) (y2 : List V) (y3 : Int) (y4 : Nat) (y5 : List V) : runV C (k + 1) 218 [V.sl y1 y2, V.int .i64 y3, V.sl y4 y5] = T218 (orc C k) k m q0 q1 y1 y2 y3 y4 y5 := by
 kernel_rfl
theorem E218 (y1 : Nat) (y2 : List V) (y3 : Int) (y4 : Nat) (y5 : List V) {r : V} (h : T218 (orcE C) 0 0 0 0 y1 y2 y3 y4 y5 = some r) : runE C 218 [V.sl y1 y2, V.int .i64 y3, V.sl y4 y5] = some r :=
 ofR (F := fun s => T218 (orc C s.k) s.k s.m 0 0 y1 y2 y3 y4 y5) (fun k => e218 k k 0 0 y1 y2 y3 y4 y5) (by
  unfold T218
  repeat' first | with_reducible exact cC | with_reducible refine cN cR fun _ => ?_ | with_reducible refine cT fun _ => ?_ | with_reducible refine cI fun _ => ?_ | with_reducible refine cO fun _ _ => ?_ | with_reducible refine cN cC fun _ => ?_ | with_reducible exact cR | exact cD0 gK) h

noncomputable def T211l2 (O : Orc) (k m q0 q1 : Nat) (y1 : Nat) (y2 : List V) (y3 : Int) (y4 : Int) : Option V := bif decide (y4 < y3) then must (inB y4 y1) (must (decide (y4.toNat * 1 < y2.length))
 (asSl y2[y4.toNat * 1]? fun x1 x2 => need (O.R 0 247 [V.sl x1 x2]) fun x3 => asTup (some x3) fun x4 => PI.asBool x4[0]? fun x5 => bif x5 then some (V.tup [V.int .i64 y4]) else O.L 0 211 0 [true,
 false, true] [] m [(0, V.sl y1 y2), (1, V.fn 247 []), (7, V.int .i64 y3), (8, V.int .i64 (IntKind.i64.wrap (y4 + 1)))] [])) else some (V.tup [V.int .i64 (-1)])
theorem e211l2 (k m q0 q1 : Nat) (y1 : Nat) (y2 : List V) (y3 : Int) (y4 : Int) : runL C k 211 0 [true, false, true] [] (m + 1) [(0, V.sl y1 y2), (1, V.fn 247 []), (7, V.int .i64 y3), (8, V.int .i64
 y4)] [] = T211l2 (orc C k) k m q0 q1 y1 y2 y3 y4 := by kernel_rfl
theorem E211l2 (y1 : Nat) (y2 : List V) (y3 : Int) (y4 : Int) {r : V} (h : T211l2 (orcE C) 0 0 0 0 y1 y2 y3 y4 = some r) : loopE C 211 0 [true, false, true] [] [(0, V.sl y1 y2), (1, V.fn 247 []), (7,
 V.int .i64 y3), (8, V.int .i64 y4)] [] = some r := ofL (j := 0) (F := fun s => T211l2 (orc C s.k) s.k s.m 0 0 y1 y2 y3 y4) (fs0 fun k m => e211l2 k m 0 0 y1 y2 y3 y4) (by
  unfold T211l2
  repeat' first | with_reducible exact cC | with_reducible refine cN cR fun _ => ?_ | with_reducible refine cT fun _ => ?_ | with_reducible refine cM ?_ | with_reducible refine cF ?_ ?_ | with_reducible refine cB fun _ => ?_ | with_reducible refine cL fun _ _ => ?_ | with_reducible refine cN cC fun _ => ?_ | with_reducible exact cR | exact cD0 gM) h

noncomputable def T102l1 (O : Orc) (k m q0 q1 : Nat) (y1 : Int) (y2 : Int) (y3 : Nat) (y4 : List V) : Option V := bif decide (y2 ≥ 0) then must (inB y2 y3) (must ([V.int .u8 (IntKind.u8.wrap
 y1)].length.beq 1 && (y2.toNat * 1 + [V.int .u8 (IntKind.u8.wrap y1)].length).ble y4.length) (O.L 0 102 0 [true, true, false, true] [] m [(0, V.int .i64 (y1.fdiv 256)), (3, V.ref 0), (4, V.int .i64
 (IntKind.i64.wrap (y2 - 1)))] [Ob.row 5 y3 (splice y4 (y2.toNat * 1) [V.int .u8 (IntKind.u8.wrap y1)]) false])) else some (V.tup [V.sl y3 y4])
theorem e102l1 (k m q0 q1 : Nat) (y1 : Int) (y2 : Int) (y3 : Nat) (y4 : List V) : runL C k 102 0 [true, true, false, true] [] (m + 1) [(0, V.int .i64 y1), (3, V.ref 0), (4, V.int .i64 y2)] [Ob.row 5 y3
 y4 false] = T102l1 (orc C k) k m q0 q1 y1 y2 y3 y4 := by kernel_rfl
theorem E102l1 (y1 : Int) (y2 : Int) (y3 : Nat) (y4 : List V) {r : V} (h : T102l1 (orcE C) 0 0 0 0 y1 y2 y3 y4 = some r) : loopE C 102 0 [true, true, false, true] [] [(0, V.int .i64 y1), (3, V.ref 0),
 (4, V.int .i64 y2)] [Ob.row 5 y3 y4 false] = some r := ofL (j := 0) (F := fun s => T102l1 (orc C s.k) s.k s.m 0 0 y1 y2 y3 y4) (fs0 fun k m => e102l1 k m 0 0 y1 y2 y3 y4) (by
  unfold T102l1
  repeat' first | with_reducible exact cC | with_reducible refine cM ?_ | with_reducible refine cF ?_ ?_ | exact cD0 gM) h

noncomputable def T182 (O : Orc) (k m q0 q1 : Nat) (y1 : Nat) (y2 : List V) : Option V := bif decide ((↑y1 : Int) > 60) then some (V.tup [V.sl 0 [], V.bool false]) else O.L 0 182 0 [true, true, true,
 false, true] [] k [(4, V.ref 0), (11, V.sl y1 y2), (12, V.int .i64 (↑y1 : Int)), (13, V.int .i64 0)] [Ob.row 5 0 [] false]
theorem e182 (k m q0 q1 : Nat) (y1 : Nat) (y2 : List V) : runV C (k + 1) 182 [V.sl y1 y2] = T182 (orc C k) k m q0 q1 y1 y2 := by kernel_rfl
theorem E182 (y1 : Nat) (y2 : List V) {r : V} (h : T182 (orcE C) 0 0 0 0 y1 y2 = some r) : runE C 182 [V.sl y1 y2] = some r := ofR (F := fun s => T182 (orc C s.k) s.k s.m 0 0 y1 y2) (fun k => e182 k k
 0 0 y1 y2) (by
  unfold T182
  repeat' first | with_reducible exact cC | with_reducible refine cF ?_ ?_ | exact cD0 gK) h

noncomputable def T183 (O : Orc) (k m q0 q1 : Nat) (y1 : Nat) (y2 : List V) : Option V := O.L 0 183 0 [true, true, false, true] [] k [(3, V.ref 0), (13, V.sl y1 y2), (14, V.int .i64 (↑y1 : Int)), (15,
 V.int .i64 0)] [Ob.row 5 0 [] false]
theorem e183 (k m q0 q1 : Nat) (y1 : Nat) (y2 : List V) : runV C (k + 1) 183 [V.sl y1 y2] = T183 (orc C k) k m q0 q1 y1 y2 := by kernel_rfl
theorem E183 (y1 : Nat) (y2 : List V) {r : V} (h : T183 (orcE C) 0 0 0 0 y1 y2 = some r) : runE C 183 [V.sl y1 y2] = some r := ofR (F := fun s => T183 (orc C s.k) s.k s.m 0 0 y1 y2) (fun k => e183 k k
 0 0 y1 y2) (by
  unfold T183
  repeat' first | with_reducible exact cC | exact cD0 gK) h

noncomputable def T146l1 (O : Orc) (k m q0 q1 : Nat) (y1 : Nat) (y2 : List V) (y3 : Int) (y4 : Nat) (y5 : List V) : Option V := bif decide (y3 < 4) then need (O.R 0 222 [V.sl y1 y2, V.int .i64 y3]) fun
 x1 => asTup (some x1) fun x2 => asOsl x2[0]? fun x3 x4 => must (x4.all flatV) (must (true && (y4 + 1).ble 140737488355328 && ((y4 + 1) * 24).ble 140737488355328) (O.L 0 146 0 [true, true, false, true]
 [] m [(0, V.sl y1 y2), (3, V.ref 0), (6, V.int .i64 (IntKind.i64.wrap (y3 + 1)))] [Ob.nrow [] 22 (y4 + 1) (y5 ++ [V.own false 5 1 x3 x4])])) else some (V.tup [V.osl y4 y5])
theorem e146l1 (k m q0 q1 : Nat) (y1 : Nat) (y2 : List V) (y3 : Int) (y4 : Nat) (y5 : List V) : runL C k 146 0 [true, true, false, true] [] (m + 1) [(0, V.sl y1 y2), (3, V.ref 0), (6, V.int .i64 y3)]
 [Ob.nrow [] 22 y4 y5] = T146l1 (orc C k) k m q0 q1 y1 y2 y3 y4 y5 := by kernel_rfl
theorem E146l1 (y1 : Nat) (y2 : List V) (y3 : Int) (y4 : Nat) (y5 : List V) {r : V} (h : T146l1 (orcE C) 0 0 0 0 y1 y2 y3 y4 y5 = some r) : loopE C 146 0 [true, true, false, true] [] [(0, V.sl y1 y2),
 (3, V.ref 0), (6, V.int .i64 y3)] [Ob.nrow [] 22 y4 y5] = some r := ofL (j := 0) (F := fun s => T146l1 (orc C s.k) s.k s.m 0 0 y1 y2 y3 y4 y5) (fs0 fun k m => e146l1 k m 0 0 y1 y2 y3 y4 y5) (by
  unfold T146l1
  repeat' first | with_reducible exact cC | with_reducible refine cN cR fun _ => ?_ | with_reducible refine cT fun _ => ?_ | with_reducible refine cM ?_ | with_reducible refine cF ?_ ?_ | with_reducible refine cO fun _ _ => ?_ | with_reducible refine cN cC fun _ => ?_ | with_reducible exact cR | exact cD0 gM) h

noncomputable def T271 (O : Orc) (k m q0 q1 : Nat) (y1 : Nat) (y2 : List V) (y3 : Int) : Option V := bif (↑y1 : Int) == 1 then some (V.tup [V.osl 0 []]) else need (O.R 0 220 [V.int .i64 (↑y1 : Int)])
 fun x1 => asTup (some x1) fun x2 => PI.asInt .i64 x2[0]? fun x3 => bif decide (y3 < x3) then must (decide (0 ≤ x3) && decide (x3 ≤ (↑y1 : Int))) (must (decide (0 ≤ x3) && decide (x3 ≤ (↑y1 : Int)))
 (need (O.R 0 271 [V.sl (x3.toNat - 0) (List.take ((x3.toNat - 0) * 1) (List.drop 0 y2)), V.int .i64 y3]) fun x4 => asTup (some x4) fun x5 => asOsl x5[0]? fun x6 x7 => need (O.R 0 145 [V.sl (y1 -
 x3.toNat) (List.take ((y1 - x3.toNat) * 1) (List.drop (x3.toNat * 1) y2))]) fun x8 => asTup (some x8) fun x9 => asOsl x9[0]? fun x10 x11 => must (x11.all flatV) (must (true && (x6 + 1).ble
 140737488355328 && ((x6 + 1) * 24).ble 140737488355328) (some (V.tup [V.osl (x6 + 1) (x7 ++ [V.own false 5 1 x10 x11])]))))) else must (decide (0 ≤ x3) && decide (x3 ≤ (↑y1 : Int))) (must (decide (0 ≤
 x3) && decide (x3 ≤ (↑y1 : Int))) (need (O.R 0 271 [V.sl (y1 - x3.toNat) (List.take ((y1 - x3.toNat) * 1) (List.drop (x3.toNat * 1) y2)), V.int .i64 (IntKind.i64.wrap (y3 - x3))]) fun x12 => asTup
 (some x12) fun x13 => asOsl x13[0]? fun x14 x15 => need (O.R 0 145 [V.sl (x3.toNat - 0) (List.take ((x3.toNat - 0) * 1) (List.drop 0 y2))]) fun x16 => asTup (some x16) fun x17 => asOsl x17[0]? fun x18
 x19 => must (x19.all flatV) (must (true && (x14 + 1).ble 140737488355328 && ((x14 + 1) * 24).ble 140737488355328) (some (V.tup [V.osl (x14 + 1) (x15 ++ [V.own false 5 1 x18 x19])])))))
theorem e271 (k m q0 q1 : Nat) (y1 : Nat) (y2 : List V) (y3 : Int) : runV C (k + 1) 271 [V.sl y1 y2, V.int .i64 y3] = T271 (orc C k) k m q0 q1 y1 y2 y3 := by kernel_rfl
theorem E271 (y1 : Nat) (y2 : List V) (y3 : Int) {r : V} (h : T271 (orcE C) 0 0 0 0 y1 y2 y3 = some r) : runE C 271 [V.sl y1 y2, V.int .i64 y3] = some r := ofR (F := fun s => T271 (orc C s.k) s.k s.m 0
 0 y1 y2 y3) (fun k => e271 k k 0 0 y1 y2 y3) (by
  unfold T271
  repeat' first | with_reducible exact cC | with_reducible refine cN cR fun _ => ?_ | with_reducible refine cT fun _ => ?_ | with_reducible refine cI fun _ => ?_ | with_reducible refine cM ?_ | with_reducible refine cF ?_ ?_ | with_reducible refine cO fun _ _ => ?_ | with_reducible refine cN cC fun _ => ?_ | with_reducible exact cR) h

noncomputable def T213l1 (O : Orc) (k m q0 q1 : Nat) (y1 : Int) (y2 : Nat) (y3 : List V) (y4 : Int) (y5 : Int) (y6 : Nat) (y7 : List V) : Option V := bif decide (y5 < y4) then must (inB y5 y2)
 (PI.asInt .u8 y3[y5.toNat * 1]? fun x1 => O.L 0 213 2 [true, true, false, true, false, true, true, false, false, true, true] [m] k [(3, V.ref 0), (4, V.int .i64 y1), (6, V.int .u8 x1), (7, V.int .i64
 6), (13, V.sl y2 y3), (14, V.int .i64 y4), (15, V.int .i64 y5)] [Ob.row 2 y6 y7 false]) else must (true && (y6 + 3).ble 140737488355328 && ((y6 + 3) * 8).ble 140737488355328) (must (false || (y7 ++
 [V.int .i64 (IntKind.i64.wrap (y1.tdiv 16)), V.int .i64 ((IntKind.i64.wrap (y1.tdiv 4)).tmod 4), V.int .i64 (y1.tmod 4)]).all flatV) (some (V.tup [V.osl (y6 + 3) (y7 ++ [V.int .i64 (IntKind.i64.wrap
 (y1.tdiv 16)), V.int .i64 ((IntKind.i64.wrap (y1.tdiv 4)).tmod 4), V.int .i64 (y1.tmod 4)])])))
theorem e213l1 (k m q0 q1 : Nat) (y1 : Int) (y2 : Nat) (y3 : List V) (y4 : Int) (y5 : Int) (y6 : Nat) (y7 : List V) : runL C k 213 0 [true, true, false, true] [] (m + 1) [(3, V.ref 0), (4, V.int .i64
 y1), (13, V.sl y2 y3), (14, V.int .i64 y4), (15, V.int .i64 y5)] [Ob.row 2 y6 y7 false] = T213l1 (orc C k) k m q0 q1 y1 y2 y3 y4 y5 y6 y7 := by kernel_rfl
theorem E213l1 (y1 : Int) (y2 : Nat) (y3 : List V) (y4 : Int) (y5 : Int) (y6 : Nat) (y7 : List V) {r : V} (h : T213l1 (orcE C) 0 0 0 0 y1 y2 y3 y4 y5 y6 y7 = some r) : loopE C 213 0 [true, true, false,
 true] [] [(3, V.ref 0), (4, V.int .i64 y1), (13, V.sl y2 y3), (14, V.int .i64 y4), (15, V.int .i64 y5)] [Ob.row 2 y6 y7 false] = some r := ofL (j := 0) (F := fun s => T213l1 (orc C s.k) s.k s.m 0 0 y1
 y2 y3 y4 y5 y6 y7) (fs0 fun k m => e213l1 k m 0 0 y1 y2 y3 y4 y5 y6 y7) (by
  unfold T213l1
  repeat' first | with_reducible exact cC | with_reducible refine cI fun _ => ?_ | with_reducible refine cM ?_ | with_reducible refine cF ?_ ?_ | exact cD1 gK gM) h

noncomputable def T215 (O : Orc) (k m q0 q1 : Nat) (y1 : Nat) (y2 : List V) (y3 : Int) (y4 : Int) : Option V := need (O.R 0 216 [V.str { data := #[(107 : UInt8), (101 : UInt8), (121 : UInt8)] }, V.sl 2
 [V.sl y1 y2, V.sl 2 [V.int .u8 (IntKind.u8.wrap y3), V.int .u8 (IntKind.u8.wrap y4)]]]) fun x1 => asTup (some x1) fun x2 => asOsl x2[0]? fun x3 x4 => must (false || x4.all flatV) (some (V.tup [V.osl
 x3 x4]))
theorem e215 (k m q0 q1 : Nat) (y1 : Nat) (y2 : List V) (y3 : Int) (y4 : Int) : runV C (k + 1) 215 [V.sl y1 y2, V.int .i64 y3, V.int .i64 y4] = T215 (orc C k) k m q0 q1 y1 y2 y3 y4 := by kernel_rfl
theorem E215 (y1 : Nat) (y2 : List V) (y3 : Int) (y4 : Int) {r : V} (h : T215 (orcE C) 0 0 0 0 y1 y2 y3 y4 = some r) : runE C 215 [V.sl y1 y2, V.int .i64 y3, V.int .i64 y4] = some r := ofR (F := fun s
 => T215 (orc C s.k) s.k s.m 0 0 y1 y2 y3 y4) (fun k => e215 k k 0 0 y1 y2 y3 y4) (by
  unfold T215
  repeat' first | with_reducible exact cC | with_reducible refine cN cR fun _ => ?_ | with_reducible refine cT fun _ => ?_ | with_reducible refine cM ?_ | with_reducible refine cO fun _ _ => ?_ | with_reducible refine cN cC fun _ => ?_ | with_reducible exact cR) h

noncomputable def T214 (O : Orc) (k m q0 q1 : Nat) (y1 : Nat) (y2 : List V) (y3 : Int) : Option V := need (O.R 0 272 [V.sl y1 y2]) fun x1 => asTup (some x1) fun x2 => asOsl x2[0]? fun x3 x4 => O.L 0
 214 0 [true, true, false, true] [] k [(0, V.ref 0), (7, V.int .i64 y3), (8, V.int .i64 0)] [Ob.row 5 x3 x4 false]
theorem e214 (k m q0 q1 : Nat) (y1 : Nat) (y2 : List V) (y3 : Int) : runV C (k + 1) 214 [V.sl y1 y2, V.int .i64 y3] = T214 (orc C k) k m q0 q1 y1 y2 y3 := by kernel_rfl
theorem E214 (y1 : Nat) (y2 : List V) (y3 : Int) {r : V} (h : T214 (orcE C) 0 0 0 0 y1 y2 y3 = some r) : runE C 214 [V.sl y1 y2, V.int .i64 y3] = some r := ofR (F := fun s => T214 (orc C s.k) s.k s.m 0
 0 y1 y2 y3) (fun k => e214 k k 0 0 y1 y2 y3) (by
  unfold T214
  repeat' first | with_reducible exact cC | with_reducible refine cN cR fun _ => ?_ | with_reducible refine cT fun _ => ?_ | with_reducible refine cO fun _ _ => ?_ | with_reducible refine cN cC fun _ => ?_ | with_reducible exact cR | exact cD0 gK) h

noncomputable def T301 (O : Orc) (k m q0 q1 : Nat) (y1 : Int) (y2 : Nat) (y3 : List V) (y4 : Int) (y5 : Int) (y6 : Nat) (y7 : List V) (y8 : Int) (y9 : Nat) (y10 : List V) (y11 : Int) (y12 : Int) (y13 :
 Nat) (y14 : List V) : Option V := bif y1 != y8 then some (V.tup [V.bool false]) else need (O.R 0 70 [V.sl y2 y3, V.sl y9 y10]) fun x1 => asTup (some x1) fun x2 => PI.asBool x2[0]? fun x3 => bif !x3
 then some (V.tup [V.bool false]) else need (O.R 0 303 [V.agg [V.int .i64 y4, V.int .i64 y5, V.sl y6 y7], V.agg [V.int .i64 y11, V.int .i64 y12, V.sl y13 y14]]) fun x4 => asTup (some x4) fun x5 =>
 PI.asBool x5[0]? fun x6 => bif !x6 then some (V.tup [V.bool false]) else some (V.tup [V.bool true])
theorem e301 (k m q0 q1 : Nat) (y1 : Int) (y2 : Nat) (y3 : List V) (y4 : Int) (y5 : Int) (y6 : Nat) (y7 : List V) (y8 : Int) (y9 : Nat) (y10 : List V) (y11 : Int) (y12 : Int) (y13 : Nat) (y14 : List V)
 : runV C (k + 1) 301 [V.agg [V.int .i64 y1, V.sl y2 y3, V.int .i64 y4, V.int .i64 y5, V.sl y6 y7], V.agg [V.int .i64 y8, V.sl y9 y10, V.int .i64 y11, V.int .i64 y12, V.sl y13 y14]] = T301 (orc C k) k
 m q0 q1 y1 y2 y3 y4 y5 y6 y7 y8 y9 y10 y11 y12 y13 y14 := by kernel_rfl
theorem E301 (y1 : Int) (y2 : Nat) (y3 : List V) (y4 : Int) (y5 : Int) (y6 : Nat) (y7 : List V) (y8 : Int) (y9 : Nat) (y10 : List V) (y11 : Int) (y12 : Int) (y13 : Nat) (y14 : List V) {r : V} (h : T301
 (orcE C) 0 0 0 0 y1 y2 y3 y4 y5 y6 y7 y8 y9 y10 y11 y12 y13 y14 = some r) : runE C 301 [V.agg [V.int .i64 y1, V.sl y2 y3, V.int .i64 y4, V.int .i64 y5, V.sl y6 y7], V.agg [V.int .i64 y8, V.sl y9 y10,
 V.int .i64 y11, V.int .i64 y12, V.sl y13 y14]] = some r := ofR (F := fun s => T301 (orc C s.k) s.k s.m 0 0 y1 y2 y3 y4 y5 y6 y7 y8 y9 y10 y11 y12 y13 y14) (fun k => e301 k k 0 0 y1 y2 y3 y4 y5 y6 y7
 y8 y9 y10 y11 y12 y13 y14) (by
  unfold T301
  repeat' first | with_reducible exact cC | with_reducible refine cN cR fun _ => ?_ | with_reducible refine cT fun _ => ?_ | with_reducible refine cF ?_ ?_ | with_reducible refine cB fun _ => ?_ | with_reducible refine cN cC fun _ => ?_ | with_reducible exact cR) h

noncomputable def T201l1 (O : Orc) (k m q0 q1 : Nat) (y1 : Nat) (y2 : List V) (y3 : Int) (y4 : Int) : Option V := bif decide (y4 < (↑y1 : Int)) then must (inB y4 y1) (must (decide (y4.toNat * 1 <
 y2.length)) (asSl y2[y4.toNat * 1]? fun x1 x2 => need (O.R 0 254 [V.sl x1 x2, V.int .i64 y3]) fun x3 => asTup (some x3) fun x4 => PI.asInt .i64 x4[0]? fun x5 => bif decide (x5 < 0) then some (V.tup
 [V.int .i64 (-1)]) else O.L 0 201 0 [true, false, true] [] m [(0, V.sl y1 y2), (1, V.int .i64 x5), (5, V.int .i64 (IntKind.i64.wrap (y4 + 1)))] [])) else some (V.tup [V.int .i64 y3])
theorem e201l1 (k m q0 q1 : Nat) (y1 : Nat) (y2 : List V) (y3 : Int) (y4 : Int) : runL C k 201 0 [true, false, true] [] (m + 1) [(0, V.sl y1 y2), (1, V.int .i64 y3), (5, V.int .i64 y4)] [] = T201l1
 (orc C k) k m q0 q1 y1 y2 y3 y4 := by kernel_rfl
theorem E201l1 (y1 : Nat) (y2 : List V) (y3 : Int) (y4 : Int) {r : V} (h : T201l1 (orcE C) 0 0 0 0 y1 y2 y3 y4 = some r) : loopE C 201 0 [true, false, true] [] [(0, V.sl y1 y2), (1, V.int .i64 y3), (5,
 V.int .i64 y4)] [] = some r := ofL (j := 0) (F := fun s => T201l1 (orc C s.k) s.k s.m 0 0 y1 y2 y3 y4) (fs0 fun k m => e201l1 k m 0 0 y1 y2 y3 y4) (by
  unfold T201l1
  repeat' first | with_reducible exact cC | with_reducible refine cN cR fun _ => ?_ | with_reducible refine cT fun _ => ?_ | with_reducible refine cI fun _ => ?_ | with_reducible refine cM ?_ | with_reducible refine cF ?_ ?_ | with_reducible refine cL fun _ _ => ?_ | with_reducible refine cN cC fun _ => ?_ | with_reducible exact cR | exact cD0 gM) h

noncomputable def T188l1 (O : Orc) (k m q0 q1 : Nat) (y1 : Int) (y2 : Int) (y3 : Nat) (y4 : List V) : Option V := bif decide (y2 ≥ 0) then must (decide (0 ≤ IntKind.u64.wrap (IntKind.i64.wrap (8 *
 y2)))) (must (true && (y3 + 1).ble 140737488355328 && ((y3 + 1) * 1).ble 140737488355328) (O.L 0 188 0 [true, true, false, true] [] m [(0, V.int .i64 y1), (3, V.ref 0), (4, V.int .i64
 (IntKind.i64.wrap (y2 - 1)))] [Ob.row 5 (y3 + 1) (y4 ++ [V.int .u8 (IntKind.u8.wrap (y1.fdiv (2 ^ min (IntKind.u64.wrap (IntKind.i64.wrap (8 * y2))).toNat 64)))]) false])) else some (V.tup [V.sl y3
 y4])
theorem e188l1 (k m q0 q1 : Nat) (y1 : Int) (y2 : Int) (y3 : Nat) (y4 : List V) : runL C k 188 0 [true, true, false, true] [] (m + 1) [(0, V.int .i64 y1), (3, V.ref 0), (4, V.int .i64 y2)] [Ob.row 5 y3
 y4 false] = T188l1 (orc C k) k m q0 q1 y1 y2 y3 y4 := by kernel_rfl
theorem E188l1 (y1 : Int) (y2 : Int) (y3 : Nat) (y4 : List V) {r : V} (h : T188l1 (orcE C) 0 0 0 0 y1 y2 y3 y4 = some r) : loopE C 188 0 [true, true, false, true] [] [(0, V.int .i64 y1), (3, V.ref 0),
 (4, V.int .i64 y2)] [Ob.row 5 y3 y4 false] = some r := ofL (j := 0) (F := fun s => T188l1 (orc C s.k) s.k s.m 0 0 y1 y2 y3 y4) (fs0 fun k m => e188l1 k m 0 0 y1 y2 y3 y4) (by
  unfold T188l1
  repeat' first | with_reducible exact cC | with_reducible refine cM ?_ | with_reducible refine cF ?_ ?_ | exact cD0 gM) h

noncomputable def T111l1 (O : Orc) (k m q0 q1 : Nat) (y1 : Nat) (y2 : List V) (y3 : Int) (y4 : Nat) (y5 : List V) : Option V := bif decide (y3 < (↑y1 : Int)) then must (inB y3 y1) (must (decide
 (y3.toNat * 1 < y2.length)) (asSl y2[y3.toNat * 1]? fun x1 x2 => must (inB y3 y1) (must (decide (y3.toNat * 1 < y2.length)) (must (true && (y4 + 1).ble 140737488355328 && ((y4 + 1) * 1).ble
 140737488355328) (asSl y2[y3.toNat * 1]? fun x3 x4 => must (decide (x4.length = x3 * 1)) (must (true && (y4 + 1 + x3).ble 140737488355328 && ((y4 + 1 + x3) * 1).ble 140737488355328) (O.L 0 111 0
 [true, true, false, true] [] m [(0, V.sl y1 y2), (3, V.ref 0), (4, V.int .i64 (IntKind.i64.wrap (y3 + 1)))] [Ob.row 5 (y4 + 1 + x3) (y5 ++ [V.int .u8 (IntKind.u8.wrap (↑x1 : Int))] ++ x4)
 false]))))))) else must (false || y5.all flatV) (some (V.tup [V.osl y4 y5]))
theorem e111l1 (k m q0 q1 : Nat) (y1 : Nat) (y2 : List V) (y3 : Int) (y4 : Nat) (y5 : List V) : runL C k 111 0 [true, true, false, true] [] (m + 1) [(0, V.sl y1 y2), (3, V.ref 0), (4, V.int .i64 y3)]
 [Ob.row 5 y4 y5 false] = T111l1 (orc C k) k m q0 q1 y1 y2 y3 y4 y5 := by kernel_rfl
theorem E111l1 (y1 : Nat) (y2 : List V) (y3 : Int) (y4 : Nat) (y5 : List V) {r : V} (h : T111l1 (orcE C) 0 0 0 0 y1 y2 y3 y4 y5 = some r) : loopE C 111 0 [true, true, false, true] [] [(0, V.sl y1 y2),
 (3, V.ref 0), (4, V.int .i64 y3)] [Ob.row 5 y4 y5 false] = some r := ofL (j := 0) (F := fun s => T111l1 (orc C s.k) s.k s.m 0 0 y1 y2 y3 y4 y5) (fs0 fun k m => e111l1 k m 0 0 y1 y2 y3 y4 y5) (by
  unfold T111l1
  repeat' first | with_reducible exact cC | with_reducible refine cM ?_ | with_reducible refine cF ?_ ?_ | with_reducible refine cL fun _ _ => ?_ | exact cD0 gM) h

noncomputable def T187 (O : Orc) (k m q0 q1 : Nat) (y1 : Nat) (y2 : List V) : Option V := need (O.R 0 249 []) fun x1 => PI.asAgg (some x1) fun x2 => must (x2.length.beq 64 && true && (0 +
 x2.length).ble 64 && flatB C 280 x2) (need (O.R 0 250 []) fun x3 => asTup (some x3) fun x4 => PI.asInt .i64 x4[0]? fun x5 => PI.asInt .i64 x4[1]? fun x6 => PI.asInt .i64 x4[2]? fun x7 => PI.asInt .i64
 x4[3]? fun x8 => PI.asInt .i64 x4[4]? fun x9 => PI.asInt .i64 x4[5]? fun x10 => PI.asInt .i64 x4[6]? fun x11 => PI.asInt .i64 x4[7]? fun x12 => need (O.R 0 251 [V.sl y1 y2]) fun x13 => asTup (some
 x13) fun x14 => asSl x14[0]? fun x15 x16 => O.L 0 187 0 [true, true, true, true, false, true] [] k [(3, V.ptr 0 0), (4, V.ptr 1 0), (5, V.sl x15 x16), (6, V.int .i64 0)] [Ob.box 280 (splice [V.int
 .i64 0, V.int .i64 0, V.int .i64 0, V.int .i64 0, V.int .i64 0, V.int .i64 0, V.int .i64 0, V.int .i64 0, V.int .i64 0, V.int .i64 0, V.int .i64 0, V.int .i64 0, V.int .i64 0, V.int .i64 0, V.int .i64
 0, V.int .i64 0, V.int .i64 0, V.int .i64 0, V.int .i64 0, V.int .i64 0, V.int .i64 0, V.int .i64 0, V.int .i64 0, V.int .i64 0, V.int .i64 0, V.int .i64 0, V.int .i64 0, V.int .i64 0, V.int .i64 0,
 V.int .i64 0, V.int .i64 0, V.int .i64 0, V.int .i64 0, V.int .i64 0, V.int .i64 0, V.int .i64 0, V.int .i64 0, V.int .i64 0, V.int .i64 0, V.int .i64 0, V.int .i64 0, V.int .i64 0, V.int .i64 0,
 V.int .i64 0, V.int .i64 0, V.int .i64 0, V.int .i64 0, V.int .i64 0, V.int .i64 0, V.int .i64 0, V.int .i64 0, V.int .i64 0, V.int .i64 0, V.int .i64 0, V.int .i64 0, V.int .i64 0, V.int .i64 0,
 V.int .i64 0, V.int .i64 0, V.int .i64 0, V.int .i64 0, V.int .i64 0, V.int .i64 0, V.int .i64 0] 0 x2) false, Ob.box 282 [V.int .i64 x5, V.int .i64 x6, V.int .i64 x7, V.int .i64 x8, V.int .i64 x9,
 V.int .i64 x10, V.int .i64 x11, V.int .i64 x12] false])
theorem e187 (k m q0 q1 : Nat) (y1 : Nat) (y2 : List V) : runV C (k + 1) 187 [V.sl y1 y2] = T187 (orc C k) k m q0 q1 y1 y2 := by kernel_rfl
theorem E187 (y1 : Nat) (y2 : List V) {r : V} (h : T187 (orcE C) 0 0 0 0 y1 y2 = some r) : runE C 187 [V.sl y1 y2] = some r := ofR (F := fun s => T187 (orc C s.k) s.k s.m 0 0 y1 y2) (fun k => e187 k k
 0 0 y1 y2) (by
  unfold T187
  repeat' first | with_reducible exact cC | with_reducible refine cN cR fun _ => ?_ | with_reducible refine cT fun _ => ?_ | with_reducible refine cI fun _ => ?_ | with_reducible refine cM ?_ | with_reducible refine cL fun _ _ => ?_ | with_reducible refine cA fun _ => ?_ | with_reducible refine cN cC fun _ => ?_ | with_reducible exact cR | exact cD0 gK) h

noncomputable def T274 (O : Orc) (k m q0 q1 : Nat) (y1 : Nat) (y2 : List V) : Option V := O.L 0 274 0 [true, true, false, true] [] k [(0, V.sl y1 y2), (3, V.ref 0), (4, V.int .i64 0)] [Ob.nrow [] 22 0
 []]
theorem e274 (k m q0 q1 : Nat) (y1 : Nat) (y2 : List V) : runV C (k + 1) 274 [V.sl y1 y2] = T274 (orc C k) k m q0 q1 y1 y2 := by kernel_rfl
theorem E274 (y1 : Nat) (y2 : List V) {r : V} (h : T274 (orcE C) 0 0 0 0 y1 y2 = some r) : runE C 274 [V.sl y1 y2] = some r := ofR (F := fun s => T274 (orc C s.k) s.k s.m 0 0 y1 y2) (fun k => e274 k k
 0 0 y1 y2) (by
  unfold T274
  repeat' first | with_reducible exact cC | exact cD0 gK) h

noncomputable def T273 (O : Orc) (k m q0 q1 : Nat) (y1 : Nat) (y2 : List V) (y3 : Int) : Option V := need (O.R 0 298 [V.sl y1 y2, V.int .i64 y3]) fun x1 => asTup (some x1) fun x2 => asOsl x2[0]? fun x3
 x4 => some (V.tup [V.int .i64 y3, V.int .i64 (↑y1 : Int), V.osl x3 x4])
theorem e273 (k m q0 q1 : Nat) (y1 : Nat) (y2 : List V) (y3 : Int) : runV C (k + 1) 273 [V.sl y1 y2, V.int .i64 y3] = T273 (orc C k) k m q0 q1 y1 y2 y3 := by kernel_rfl
theorem E273 (y1 : Nat) (y2 : List V) (y3 : Int) {r : V} (h : T273 (orcE C) 0 0 0 0 y1 y2 y3 = some r) : runE C 273 [V.sl y1 y2, V.int .i64 y3] = some r := ofR (F := fun s => T273 (orc C s.k) s.k s.m 0
 0 y1 y2 y3) (fun k => e273 k k 0 0 y1 y2 y3) (by
  unfold T273
  repeat' first | with_reducible exact cC | with_reducible refine cN cR fun _ => ?_ | with_reducible refine cT fun _ => ?_ | with_reducible refine cO fun _ _ => ?_ | with_reducible refine cN cC fun _ => ?_ | with_reducible exact cR) h

noncomputable def T275 (O : Orc) (k m q0 q1 : Nat) (y1 : Nat) (y2 : List V) : Option V := need (O.R 0 244 [V.str { data := #[(109 : UInt8), (101 : UInt8), (115 : UInt8), (115 : UInt8), (97 : UInt8),
 (103 : UInt8), (101 : UInt8)] }, V.sl y1 y2]) fun x1 => asTup (some x1) fun x2 => asOsl x2[0]? fun x3 x4 => O.L 0 275 0 [true, true, true, true, false, true] [] k [(3, V.ref 0), (4, V.ref 1), (5,
 V.int .i64 0), (6, V.int .i64 0)] [Ob.row 5 x3 x4 false, Ob.row 2 0 [] false]
theorem e275 (k m q0 q1 : Nat) (y1 : Nat) (y2 : List V) : runV C (k + 1) 275 [V.sl y1 y2] = T275 (orc C k) k m q0 q1 y1 y2 := by kernel_rfl
theorem E275 (y1 : Nat) (y2 : List V) {r : V} (h : T275 (orcE C) 0 0 0 0 y1 y2 = some r) : runE C 275 [V.sl y1 y2] = some r := ofR (F := fun s => T275 (orc C s.k) s.k s.m 0 0 y1 y2) (fun k => e275 k k
 0 0 y1 y2) (by
  unfold T275
  repeat' first | with_reducible exact cC | with_reducible refine cN cR fun _ => ?_ | with_reducible refine cT fun _ => ?_ | with_reducible refine cO fun _ _ => ?_ | with_reducible refine cN cC fun _ => ?_ | with_reducible exact cR | exact cD0 gK) h

noncomputable def T218l1 (O : Orc) (k m q0 q1 : Nat) (y1 : Nat) (y2 : List V) (y3 : Int) (y4 : Int) (y5 : Int) (y6 : Int) (y7 : Int) (y8 : Nat) (y9 : List V) (y10 : Nat) (y11 : List V) (y12 : Int) (y13
 : Int) (y14 : Int) (y15 : Nat) (y16 : List V) (y17 : Nat) (y18 : List V) (y19 : Nat) (y20 : List V) : Option V := bif decide (y4 < 19) then must (inB y4 y19) (PI.asInt .i64 y20[y4.toNat * 1]? fun x1
 => need (O.R 0 277 [V.sl y1 y2, V.int .i64 y3, V.int .i64 y4]) fun x2 => asTup (some x2) fun x3 => asOsl x3[0]? fun x4 x5 => need (O.R 0 276 [V.sl x4 x5, V.int .i64 x1]) fun x6 => asTup (some x6) fun
 x7 => asOsl x7[0]? fun x8 x9 => must (x9.all flatV) (must (true && (y15 + 1).ble 140737488355328 && ((y15 + 1) * 24).ble 140737488355328) (O.L 0 218 0 [true, true, true, false, true] [] m [(0, V.sl y1
 y2), (1, V.int .i64 y3), (6, V.ptr 0 0), (7, V.ptr 3 0), (8, V.ref 6), (9, V.int .i64 (IntKind.i64.wrap (y4 + 1)))] [Ob.box 192 [V.int .i64 y5, V.ref 1, V.int .i64 y6, V.int .i64 y7, V.ref 2] false,
 Ob.nrow [] 22 y8 y9, Ob.nrow [] 22 y10 y11, Ob.box 192 [V.int .i64 y12, V.ref 4, V.int .i64 y13, V.int .i64 y14, V.ref 5] false, Ob.nrow [] 22 (y15 + 1) (y16 ++ [V.own false 5 1 x8 x9]), Ob.nrow [] 22
 y17 y18, Ob.row 2 y19 y20 false]))) else some (V.tup [V.int .i64 y12, V.osl y15 y16, V.int .i64 y13, V.int .i64 y14, V.osl y17 y18])
theorem e218l1 (k m q0 q1 : Nat) (y1 : Nat) (y2 : List V) (y3 : Int) (y4 : Int) (y5 : Int) (y6 : Int) (y7 : Int) (y8 : Nat) (y9 : List V) (y10 : Nat) (y11 : List V) (y12 : Int) (y13 : Int) (y14 : Int)
 (y15 : Nat) (y16 : List V) (y17 : Nat) (y18 : List V) (y19 : Nat) (y20 : List V) : runL C k 218 0 [true, true, true, false, true] [] (m + 1) [(0, V.sl y1 y2), (1, V.int .i64 y3), (6, V.ptr 0 0), (7,
 V.ptr 3 0), (8, V.ref 6), (9, V.int .i64 y4)] [Ob.box 192 [V.int .i64 y5, V.ref 1, V.int .i64 y6, V.int .i64 y7, V.ref 2] false, Ob.nrow [] 22 y8 y9, Ob.nrow [] 22 y10 y11, Ob.box 192 [V.int .i64 y12,
 V.ref 4, V.int .i64 y13, V.int .i64 y14, V.ref 5] false, Ob.nrow [] 22 y15 y16, Ob.nrow [] 22 y17 y18, Ob.row 2 y19 y20 false] = T218l1 (orc C k) k m q0 q1 y1 y2 y3 y4 y5 y6 y7 y8 y9 y10 y11 y12 y13
 y14 y15 y16 y17 y18 y19 y20 := by kernel_rfl
theorem E218l1 (y1 : Nat) (y2 : List V) (y3 : Int) (y4 : Int) (y5 : Int) (y6 : Int) (y7 : Int) (y8 : Nat) (y9 : List V) (y10 : Nat) (y11 : List V) (y12 : Int) (y13 : Int) (y14 : Int) (y15 : Nat) (y16 :
 List V) (y17 : Nat) (y18 : List V) (y19 : Nat) (y20 : List V) {r : V} (h : T218l1 (orcE C) 0 0 0 0 y1 y2 y3 y4 y5 y6 y7 y8 y9 y10 y11 y12 y13 y14 y15 y16 y17 y18 y19 y20 = some r) : loopE C 218 0
 [true, true, true, false, true] [] [(0, V.sl y1 y2), (1, V.int .i64 y3), (6, V.ptr 0 0), (7, V.ptr 3 0), (8, V.ref 6), (9, V.int .i64 y4)] [Ob.box 192 [V.int .i64 y5, V.ref 1, V.int .i64 y6, V.int
 .i64 y7, V.ref 2] false, Ob.nrow [] 22 y8 y9, Ob.nrow [] 22 y10 y11, Ob.box 192 [V.int .i64 y12, V.ref 4, V.int .i64 y13, V.int .i64 y14, V.ref 5] false, Ob.nrow [] 22 y15 y16, Ob.nrow [] 22 y17 y18,
 Ob.row 2 y19 y20 false] = some r := ofL (j := 0) (F := fun s => T218l1 (orc C s.k) s.k s.m 0 0 y1 y2 y3 y4 y5 y6 y7 y8 y9 y10 y11 y12 y13 y14 y15 y16 y17 y18 y19 y20) (fs0 fun k m => e218l1 k m 0 0 y1
 y2 y3 y4 y5 y6 y7 y8 y9 y10 y11 y12 y13 y14 y15 y16 y17 y18 y19 y20) (by
  unfold T218l1
  repeat' first | with_reducible exact cC | with_reducible refine cN cR fun _ => ?_ | with_reducible refine cT fun _ => ?_ | with_reducible refine cI fun _ => ?_ | with_reducible refine cM ?_ | with_reducible refine cF ?_ ?_ | with_reducible refine cO fun _ _ => ?_ | with_reducible refine cN cC fun _ => ?_ | with_reducible exact cR | exact cD0 gM) h

noncomputable def T247 (O : Orc) (k m q0 q1 : Nat) (y1 : Nat) (y2 : List V) : Option V := need (O.R 0 196 [V.sl y1 y2]) fun x1 => asTup (some x1) fun x2 => PI.asBool x2[0]? fun x3 => some (V.tup
 [V.bool !x3])
theorem e247 (k m q0 q1 : Nat) (y1 : Nat) (y2 : List V) : runV C (k + 1) 247 [V.sl y1 y2] = T247 (orc C k) k m q0 q1 y1 y2 := by kernel_rfl
theorem E247 (y1 : Nat) (y2 : List V) {r : V} (h : T247 (orcE C) 0 0 0 0 y1 y2 = some r) : runE C 247 [V.sl y1 y2] = some r := ofR (F := fun s => T247 (orc C s.k) s.k s.m 0 0 y1 y2) (fun k => e247 k k
 0 0 y1 y2) (by
  unfold T247
  repeat' first | with_reducible exact cC | with_reducible refine cN cR fun _ => ?_ | with_reducible refine cT fun _ => ?_ | with_reducible refine cB fun _ => ?_ | with_reducible refine cN cC fun _ => ?_ | with_reducible exact cR) h

noncomputable def T182l1 (O : Orc) (k m q0 q1 : Nat) (y1 : Nat) (y2 : List V) (y3 : Int) (y4 : Int) (y5 : Nat) (y6 : List V) : Option V := bif decide (y4 < y3) then must (inB y4 y1) (must (decide
 (y4.toNat * 1 < y2.length)) (asSl y2[y4.toNat * 1]? fun x1 x2 => bif decide ((↑x1 : Int) > 200) then some (V.tup [V.sl 0 [], V.bool false]) else asSl y2[y4.toNat * 1]? fun x3 x4 => bif decide
 (IntKind.i64.wrap (IntKind.i64.wrap ((↑y5 : Int) + 1) + (↑x3 : Int)) > 4000) then some (V.tup [V.sl 0 [], V.bool false]) else asSl y2[y4.toNat * 1]? fun x5 x6 => must (true && (y5 + 1).ble
 140737488355328 && ((y5 + 1) * 1).ble 140737488355328) (asSl y2[y4.toNat * 1]? fun x7 x8 => must (decide (x8.length = x7 * 1)) (must (true && (y5 + 1 + x7).ble 140737488355328 && ((y5 + 1 + x7) *
 1).ble 140737488355328) (O.L 0 182 0 [true, true, true, false, true] [] m [(4, V.ref 0), (11, V.sl y1 y2), (12, V.int .i64 y3), (13, V.int .i64 (IntKind.i64.wrap (y4 + 1)))] [Ob.row 5 (y5 + 1 + x7)
 (y6 ++ [V.int .u8 (IntKind.u8.wrap (↑x5 : Int))] ++ x8) false]))))) else some (V.tup [V.sl y5 y6, V.bool true])
theorem e182l1 (k m q0 q1 : Nat) (y1 : Nat) (y2 : List V) (y3 : Int) (y4 : Int) (y5 : Nat) (y6 : List V) : runL C k 182 0 [true, true, true, false, true] [] (m + 1) [(4, V.ref 0), (11, V.sl y1 y2),
 (12, V.int .i64 y3), (13, V.int .i64 y4)] [Ob.row 5 y5 y6 false] = T182l1 (orc C k) k m q0 q1 y1 y2 y3 y4 y5 y6 := by kernel_rfl
theorem E182l1 (y1 : Nat) (y2 : List V) (y3 : Int) (y4 : Int) (y5 : Nat) (y6 : List V) {r : V} (h : T182l1 (orcE C) 0 0 0 0 y1 y2 y3 y4 y5 y6 = some r) : loopE C 182 0 [true, true, true, false, true]
 [] [(4, V.ref 0), (11, V.sl y1 y2), (12, V.int .i64 y3), (13, V.int .i64 y4)] [Ob.row 5 y5 y6 false] = some r := ofL (j := 0) (F := fun s => T182l1 (orc C s.k) s.k s.m 0 0 y1 y2 y3 y4 y5 y6) (fs0 fun
 k m => e182l1 k m 0 0 y1 y2 y3 y4 y5 y6) (by
  unfold T182l1
  repeat' first | with_reducible exact cC | with_reducible refine cM ?_ | with_reducible refine cF ?_ ?_ | with_reducible refine cL fun _ _ => ?_ | exact cD0 gM) h

noncomputable def T183l1 (O : Orc) (k m q0 q1 : Nat) (y1 : Nat) (y2 : List V) (y3 : Int) (y4 : Int) (y5 : Nat) (y6 : List V) : Option V := bif decide (y4 < y3) then must (inB y4 y1) (must (decide
 (y4.toNat * 1 < y2.length)) (asSl y2[y4.toNat * 1]? fun x1 x2 => must (decide (x2.length = x1 * 1)) (must (true && (y5 + x1).ble 140737488355328 && ((y5 + x1) * 1).ble 140737488355328) (O.L 0 183 0
 [true, true, false, true] [] m [(3, V.ref 0), (13, V.sl y1 y2), (14, V.int .i64 y3), (15, V.int .i64 (IntKind.i64.wrap (y4 + 1)))] [Ob.row 5 (y5 + x1) (y6 ++ x2) false])))) else must (true && (y5 +
 1).ble 140737488355328 && ((y5 + 1) * 1).ble 140737488355328) (O.L 0 183 2 [true, true, true, true, true, false] [] k [(3, V.ref 0), (6, V.int .u64 (IntKind.u64.wrap (IntKind.u64.wrap (↑y5 : Int) *
 8)))] [Ob.row 5 (y5 + 1) (y6 ++ [V.int .u8 128]) false])
theorem e183l1 (k m q0 q1 : Nat) (y1 : Nat) (y2 : List V) (y3 : Int) (y4 : Int) (y5 : Nat) (y6 : List V) : runL C k 183 0 [true, true, false, true] [] (m + 1) [(3, V.ref 0), (13, V.sl y1 y2), (14,
 V.int .i64 y3), (15, V.int .i64 y4)] [Ob.row 5 y5 y6 false] = T183l1 (orc C k) k m q0 q1 y1 y2 y3 y4 y5 y6 := by kernel_rfl
theorem E183l1 (y1 : Nat) (y2 : List V) (y3 : Int) (y4 : Int) (y5 : Nat) (y6 : List V) {r : V} (h : T183l1 (orcE C) 0 0 0 0 y1 y2 y3 y4 y5 y6 = some r) : loopE C 183 0 [true, true, false, true] [] [(3,
 V.ref 0), (13, V.sl y1 y2), (14, V.int .i64 y3), (15, V.int .i64 y4)] [Ob.row 5 y5 y6 false] = some r := ofL (j := 0) (F := fun s => T183l1 (orc C s.k) s.k s.m 0 0 y1 y2 y3 y4 y5 y6) (fs0 fun k m =>
 e183l1 k m 0 0 y1 y2 y3 y4 y5 y6) (by
  unfold T183l1
  repeat' first | with_reducible exact cC | with_reducible refine cM ?_ | with_reducible refine cF ?_ ?_ | with_reducible refine cL fun _ _ => ?_ | exact cD0 gK | exact cD0 gM) h

noncomputable def T222 (O : Orc) (k m q0 q1 : Nat) (y1 : Nat) (y2 : List V) (y3 : Int) : Option V := O.L 0 222 0 [true, true, false, true] [] k [(0, V.sl y1 y2), (1, V.int .i64 y3), (5, V.ref 0), (8,
 V.int .i64 0)] [Ob.row 5 0 [] false]
theorem e222 (k m q0 q1 : Nat) (y1 : Nat) (y2 : List V) (y3 : Int) : runV C (k + 1) 222 [V.sl y1 y2, V.int .i64 y3] = T222 (orc C k) k m q0 q1 y1 y2 y3 := by kernel_rfl
theorem E222 (y1 : Nat) (y2 : List V) (y3 : Int) {r : V} (h : T222 (orcE C) 0 0 0 0 y1 y2 y3 = some r) : runE C 222 [V.sl y1 y2, V.int .i64 y3] = some r := ofR (F := fun s => T222 (orc C s.k) s.k s.m 0
 0 y1 y2 y3) (fun k => e222 k k 0 0 y1 y2 y3) (by
  unfold T222
  repeat' first | with_reducible exact cC | exact cD0 gK) h

noncomputable def T220 (O : Orc) (k m q0 q1 : Nat) (y1 : Int) : Option V := O.L 0 220 0 [true, true, false] [] k [(0, V.int .i64 y1), (3, V.int .i64 1)] []
theorem e220 (k m q0 q1 : Nat) (y1 : Int) : runV C (k + 1) 220 [V.int .i64 y1] = T220 (orc C k) k m q0 q1 y1 := by kernel_rfl
theorem E220 (y1 : Int) {r : V} (h : T220 (orcE C) 0 0 0 0 y1 = some r) : runE C 220 [V.int .i64 y1] = some r := ofR (F := fun s => T220 (orc C s.k) s.k s.m 0 0 y1) (fun k => e220 k k 0 0 y1) (by
  unfold T220
  repeat' first | with_reducible exact cC | exact cD0 gK) h

noncomputable def T145 (O : Orc) (k m q0 q1 : Nat) (y1 : Nat) (y2 : List V) : Option V := bif (↑y1 : Int) == 0 then need (O.R 0 216 [V.str { data := #[(110 : UInt8), (111 : UInt8), (110 : UInt8), (101
 : UInt8)] }, V.sl 0 []]) fun x1 => asTup (some x1) fun x2 => asOsl x2[0]? fun x3 x4 => must (false || x4.all flatV) (some (V.tup [V.osl x3 x4])) else bif (↑y1 : Int) == 1 then must (inB 0 y1) (must
 (decide (0 < y2.length)) (asSl y2[0]? fun x5 x6 => need (O.R 0 219 [V.sl x5 x6]) fun x7 => asTup (some x7) fun x8 => asOsl x8[0]? fun x9 x10 => must (false || x10.all flatV) (some (V.tup [V.osl x9
 x10])))) else need (O.R 0 220 [V.int .i64 (↑y1 : Int)]) fun x11 => asTup (some x11) fun x12 => PI.asInt .i64 x12[0]? fun x13 => must (decide (0 ≤ x13) && decide (x13 ≤ (↑y1 : Int))) (must (decide (0 ≤
 x13) && decide (x13 ≤ (↑y1 : Int))) (need (O.R 0 145 [V.sl (x13.toNat - 0) (List.take ((x13.toNat - 0) * 1) (List.drop 0 y2))]) fun x14 => asTup (some x14) fun x15 => asOsl x15[0]? fun x16 x17 => need
 (O.R 0 145 [V.sl (y1 - x13.toNat) (List.take ((y1 - x13.toNat) * 1) (List.drop (x13.toNat * 1) y2))]) fun x18 => asTup (some x18) fun x19 => asOsl x19[0]? fun x20 x21 => need (O.R 0 221 [V.sl x16 x17,
 V.sl x20 x21]) fun x22 => asTup (some x22) fun x23 => asOsl x23[0]? fun x24 x25 => must (false || x25.all flatV) (some (V.tup [V.osl x24 x25]))))
theorem e145 (k m q0 q1 : Nat) (y1 : Nat) (y2 : List V) : runV C (k + 1) 145 [V.sl y1 y2] = T145 (orc C k) k m q0 q1 y1 y2 := by kernel_rfl
theorem E145 (y1 : Nat) (y2 : List V) {r : V} (h : T145 (orcE C) 0 0 0 0 y1 y2 = some r) : runE C 145 [V.sl y1 y2] = some r := ofR (F := fun s => T145 (orc C s.k) s.k s.m 0 0 y1 y2) (fun k => e145 k k
 0 0 y1 y2) (by
  unfold T145
  repeat' first | with_reducible exact cC | with_reducible refine cN cR fun _ => ?_ | with_reducible refine cT fun _ => ?_ | with_reducible refine cI fun _ => ?_ | with_reducible refine cM ?_ | with_reducible refine cF ?_ ?_ | with_reducible refine cL fun _ _ => ?_ | with_reducible refine cO fun _ _ => ?_ | with_reducible refine cN cC fun _ => ?_ | with_reducible exact cR) h

noncomputable def T213l2 (O : Orc) (k m q0 q1 : Nat) (y1 : Int) (y2 : Int) (y3 : Int) (y4 : Nat) (y5 : List V) (y6 : Int) (y7 : Int) (y8 : Nat) (y9 : List V) : Option V := bif decide (y3 ≥ 0) then must
 (decide (0 ≤ y3)) (must (true && (y8 + 1).ble 140737488355328 && ((y8 + 1) * 8).ble 140737488355328) (O.L 0 213 2 [true, true, false, true, false, true, true, false, false, true, true] [q0] m [(3,
 V.ref 0), (4, V.int .i64 (IntKind.i64.wrap (IntKind.i64.wrap (y1 + 3) - IntKind.i64.wrap (PI.bits IntKind.u8 (fun x1 x2 => x1 &&& x2) (y2.fdiv (2 ^ min y3.toNat 8)) 3)))), (6, V.int .u8 y2), (7, V.int
 .i64 (IntKind.i64.wrap (y3 - 2))), (13, V.sl y4 y5), (14, V.int .i64 y6), (15, V.int .i64 y7)] [Ob.row 2 (y8 + 1) (y9 ++ [V.int .i64 (IntKind.i64.wrap (PI.bits IntKind.u8 (fun x1 x2 => x1 &&& x2)
 (y2.fdiv (2 ^ min y3.toNat 8)) 3))]) false])) else O.L 0 213 0 [true, true, false, true] [] q0 [(3, V.ref 0), (4, V.int .i64 y1), (13, V.sl y4 y5), (14, V.int .i64 y6), (15, V.int .i64
 (IntKind.i64.wrap (y7 + 1)))] [Ob.row 2 y8 y9 false]
theorem e213l2 (k m q0 q1 : Nat) (y1 : Int) (y2 : Int) (y3 : Int) (y4 : Nat) (y5 : List V) (y6 : Int) (y7 : Int) (y8 : Nat) (y9 : List V) : runL C k 213 2 [true, true, false, true, false, true, true,
 false, false, true, true] [q0] (m + 1) [(3, V.ref 0), (4, V.int .i64 y1), (6, V.int .u8 y2), (7, V.int .i64 y3), (13, V.sl y4 y5), (14, V.int .i64 y6), (15, V.int .i64 y7)] [Ob.row 2 y8 y9 false] =
 T213l2 (orc C k) k m q0 q1 y1 y2 y3 y4 y5 y6 y7 y8 y9 := by kernel_rfl
theorem E213l2 (y1 : Int) (y2 : Int) (y3 : Int) (y4 : Nat) (y5 : List V) (y6 : Int) (y7 : Int) (y8 : Nat) (y9 : List V) {r : V} (h : T213l2 (orcE C) 0 0 0 0 y1 y2 y3 y4 y5 y6 y7 y8 y9 = some r) : loopE
 C 213 2 [true, true, false, true, false, true, true, false, false, true, true] [0] [(3, V.ref 0), (4, V.int .i64 y1), (6, V.int .u8 y2), (7, V.int .i64 y3), (13, V.sl y4 y5), (14, V.int .i64 y6), (15,
 V.int .i64 y7)] [Ob.row 2 y8 y9 false] = some r := ofL (j := 0) (F := fun s => T213l2 (orc C s.k) s.k s.m (s.fs.getD 0 0) 0 y1 y2 y3 y4 y5 y6 y7 y8 y9) (fs1 fun k m q0 => e213l2 k m q0 0 y1 y2 y3 y4
 y5 y6 y7 y8 y9) (by
  unfold T213l2
  repeat' first | with_reducible exact cC | with_reducible refine cM ?_ | with_reducible refine cF ?_ ?_ | exact cD0 (gF (i := 0) (by decide)) | exact cD1 gM (gF (i := 0) (by decide))) h

noncomputable def T272 (O : Orc) (k m q0 q1 : Nat) (y1 : Nat) (y2 : List V) : Option V := bif y1.beq (OfNat.ofNat 0) then both (some (V.tup [V.osl 0 []])) (must (decide (y2.length = y1 * 1)) (must
 (true && (0 + y1).ble 140737488355328 && ((0 + y1) * 1).ble 140737488355328) (must (false || y2.all flatV) (some (V.tup [V.osl (0 + y1) y2]))))) else must (decide (y2.length = y1 * 1)) (must (true &&
 (0 + y1).ble 140737488355328 && ((0 + y1) * 1).ble 140737488355328) (must (false || y2.all flatV) (some (V.tup [V.osl (0 + y1) y2]))))
theorem e272 (k m q0 q1 : Nat) (y1 : Nat) (y2 : List V) : runV C (k + 1) 272 [V.sl y1 y2] = T272 (orc C k) k m q0 q1 y1 y2 := by kernel_rfl
theorem E272 (y1 : Nat) (y2 : List V) {r : V} (h : T272 (orcE C) 0 0 0 0 y1 y2 = some r) : runE C 272 [V.sl y1 y2] = some r := ofR (F := fun s => T272 (orc C s.k) s.k s.m 0 0 y1 y2) (fun k => e272 k k
 0 0 y1 y2) (by
  unfold T272
  repeat' first | with_reducible exact cC | with_reducible refine cM ?_ | with_reducible refine cF ?_ ?_ | with_reducible refine cW ?_ ?_) h

noncomputable def T214l1 (O : Orc) (k m q0 q1 : Nat) (y1 : Int) (y2 : Int) (y3 : Nat) (y4 : List V) : Option V := bif decide (y2 < y1) then need (O.R 0 216 [V.str { data := #[(115 : UInt8), (116 :
 UInt8), (101 : UInt8), (112 : UInt8)] }, V.sl 1 [V.sl y3 y4]]) fun x1 => asTup (some x1) fun x2 => asOsl x2[0]? fun x3 x4 => O.L 0 214 0 [true, true, false, true] [] m [(0, V.ref 0), (7, V.int .i64
 y1), (8, V.int .i64 (IntKind.i64.wrap (y2 + 1)))] [Ob.row 5 x3 x4 false] else must (false || y4.all flatV) (some (V.tup [V.osl y3 y4]))
theorem e214l1 (k m q0 q1 : Nat) (y1 : Int) (y2 : Int) (y3 : Nat) (y4 : List V) : runL C k 214 0 [true, true, false, true] [] (m + 1) [(0, V.ref 0), (7, V.int .i64 y1), (8, V.int .i64 y2)] [Ob.row 5 y3
 y4 false] = T214l1 (orc C k) k m q0 q1 y1 y2 y3 y4 := by kernel_rfl
theorem E214l1 (y1 : Int) (y2 : Int) (y3 : Nat) (y4 : List V) {r : V} (h : T214l1 (orcE C) 0 0 0 0 y1 y2 y3 y4 = some r) : loopE C 214 0 [true, true, false, true] [] [(0, V.ref 0), (7, V.int .i64 y1),
 (8, V.int .i64 y2)] [Ob.row 5 y3 y4 false] = some r := ofL (j := 0) (F := fun s => T214l1 (orc C s.k) s.k s.m 0 0 y1 y2 y3 y4) (fs0 fun k m => e214l1 k m 0 0 y1 y2 y3 y4) (by
  unfold T214l1
  repeat' first | with_reducible exact cC | with_reducible refine cN cR fun _ => ?_ | with_reducible refine cT fun _ => ?_ | with_reducible refine cM ?_ | with_reducible refine cF ?_ ?_ | with_reducible refine cO fun _ _ => ?_ | with_reducible refine cN cC fun _ => ?_ | with_reducible exact cR | exact cD0 gM) h

noncomputable def T303 (O : Orc) (k m q0 q1 : Nat) (y1 : Int) (y2 : Int) (y3 : Nat) (y4 : List V) (y5 : Int) (y6 : Int) (y7 : Nat) (y8 : List V) : Option V := bif y1 != y5 then some (V.tup [V.bool
 false]) else bif y2 != y6 then some (V.tup [V.bool false]) else need (O.R 0 70 [V.sl y3 y4, V.sl y7 y8]) fun x1 => asTup (some x1) fun x2 => PI.asBool x2[0]? fun x3 => bif !x3 then some (V.tup [V.bool
 false]) else some (V.tup [V.bool true])
theorem e303 (k m q0 q1 : Nat) (y1 : Int) (y2 : Int) (y3 : Nat) (y4 : List V) (y5 : Int) (y6 : Int) (y7 : Nat) (y8 : List V) : runV C (k + 1) 303 [V.agg [V.int .i64 y1, V.int .i64 y2, V.sl y3 y4],
 V.agg [V.int .i64 y5, V.int .i64 y6, V.sl y7 y8]] = T303 (orc C k) k m q0 q1 y1 y2 y3 y4 y5 y6 y7 y8 := by kernel_rfl
theorem E303 (y1 : Int) (y2 : Int) (y3 : Nat) (y4 : List V) (y5 : Int) (y6 : Int) (y7 : Nat) (y8 : List V) {r : V} (h : T303 (orcE C) 0 0 0 0 y1 y2 y3 y4 y5 y6 y7 y8 = some r) : runE C 303 [V.agg
 [V.int .i64 y1, V.int .i64 y2, V.sl y3 y4], V.agg [V.int .i64 y5, V.int .i64 y6, V.sl y7 y8]] = some r := ofR (F := fun s => T303 (orc C s.k) s.k s.m 0 0 y1 y2 y3 y4 y5 y6 y7 y8) (fun k => e303 k k 0
 0 y1 y2 y3 y4 y5 y6 y7 y8) (by
  unfold T303
  repeat' first | with_reducible exact cC | with_reducible refine cN cR fun _ => ?_ | with_reducible refine cT fun _ => ?_ | with_reducible refine cF ?_ ?_ | with_reducible refine cB fun _ => ?_ | with_reducible refine cN cC fun _ => ?_ | with_reducible exact cR) h

noncomputable def T249 (O : Orc) (k m q0 q1 : Nat)  : Option V := some (V.agg [V.int .i64 1116352408, V.int .i64 1899447441, V.int .i64 3049323471, V.int .i64 3921009573, V.int .i64 961987163, V.int
 .i64 1508970993, V.int .i64 2453635748, V.int .i64 2870763221, V.int .i64 3624381080, V.int .i64 310598401, V.int .i64 607225278, V.int .i64 1426881987, V.int .i64 1925078388, V.int .i64 2162078206,
 V.int .i64 2614888103, V.int .i64 3248222580, V.int .i64 3835390401, V.int .i64 4022224774, V.int .i64 264347078, V.int .i64 604807628, V.int .i64 770255983, V.int .i64 1249150122, V.int .i64
 1555081692, V.int .i64 1996064986, V.int .i64 2554220882, V.int .i64 2821834349, V.int .i64 2952996808, V.int .i64 3210313671, V.int .i64 3336571891, V.int .i64 3584528711, V.int .i64 113926993, V.int
 .i64 338241895, V.int .i64 666307205, V.int .i64 773529912, V.int .i64 1294757372, V.int .i64 1396182291, V.int .i64 1695183700, V.int .i64 1986661051, V.int .i64 2177026350, V.int .i64 2456956037,
 V.int .i64 2730485921, V.int .i64 2820302411, V.int .i64 3259730800, V.int .i64 3345764771, V.int .i64 3516065817, V.int .i64 3600352804, V.int .i64 4094571909, V.int .i64 275423344, V.int .i64
 430227734, V.int .i64 506948616, V.int .i64 659060556, V.int .i64 883997877, V.int .i64 958139571, V.int .i64 1322822218, V.int .i64 1537002063, V.int .i64 1747873779, V.int .i64 1955562222, V.int
 .i64 2024104815, V.int .i64 2227730452, V.int .i64 2361852424, V.int .i64 2428436474, V.int .i64 2756734187, V.int .i64 3204031479, V.int .i64 3329325298])
theorem e249 (k m q0 q1 : Nat)  : runV C (k + 1) 249 [] = T249 (orc C k) k m q0 q1  := by kernel_rfl
theorem E249  {r : V} (h : T249 (orcE C) 0 0 0 0  = some r) : runE C 249 [] = some r := ofR (F := fun s => T249 (orc C s.k) s.k s.m 0 0 ) (fun k => e249 k k 0 0 ) (by
  unfold T249
  exact cC) h

noncomputable def T250 (O : Orc) (k m q0 q1 : Nat)  : Option V := some (V.tup [V.int .i64 1779033703, V.int .i64 3144134277, V.int .i64 1013904242, V.int .i64 2773480762, V.int .i64 1359893119, V.int
 .i64 2600822924, V.int .i64 528734635, V.int .i64 1541459225])
theorem e250 (k m q0 q1 : Nat)  : runV C (k + 1) 250 [] = T250 (orc C k) k m q0 q1  := by kernel_rfl
theorem E250  {r : V} (h : T250 (orcE C) 0 0 0 0  = some r) : runE C 250 [] = some r := ofR (F := fun s => T250 (orc C s.k) s.k s.m 0 0 ) (fun k => e250 k k 0 0 ) (by
  unfold T250
  exact cC) h

noncomputable def T251 (O : Orc) (k m q0 q1 : Nat) (y1 : Nat) (y2 : List V) : Option V := must (decide (y2.length = y1 * 1)) (must (true && (0 + y1).ble 140737488355328 && ((0 + y1) * 1).ble
 140737488355328) (must (true && (0 + y1 + 1).ble 140737488355328 && ((0 + y1 + 1) * 1).ble 140737488355328) (O.L 0 251 0 [true, true, false] [] k [(0, V.sl y1 y2), (3, V.ref 0)] [Ob.row 5 (0 + y1 + 1)
 (y2 ++ [V.int .u8 128]) false])))
theorem e251 (k m q0 q1 : Nat) (y1 : Nat) (y2 : List V) : runV C (k + 1) 251 [V.sl y1 y2] = T251 (orc C k) k m q0 q1 y1 y2 := by kernel_rfl
theorem E251 (y1 : Nat) (y2 : List V) {r : V} (h : T251 (orcE C) 0 0 0 0 y1 y2 = some r) : runE C 251 [V.sl y1 y2] = some r := ofR (F := fun s => T251 (orc C s.k) s.k s.m 0 0 y1 y2) (fun k => e251 k k
 0 0 y1 y2) (by
  unfold T251
  repeat' first | with_reducible exact cC | with_reducible refine cM ?_ | exact cD0 gK) h

noncomputable def T187l1 (O : Orc) (k m q0 q1 : Nat) (y1 : Nat) (y2 : List V) (y3 : Int) (y4 : List V) (y5 : List V) : Option V := bif decide (y3 < (↑y1 : Int)) then O.L 0 187 2 [true, true, true,
 true, false, true, false, true, false, false, true, false, true] [m] k [(3, V.ptr 0 0), (4, V.ptr 1 0), (5, V.sl y1 y2), (6, V.int .i64 y3), (7, V.ptr 2 0), (8, V.int .i64 0)] [Ob.box 280 y4 false,
 Ob.box 282 y5 false, Ob.box 280 [V.int .i64 0, V.int .i64 0, V.int .i64 0, V.int .i64 0, V.int .i64 0, V.int .i64 0, V.int .i64 0, V.int .i64 0, V.int .i64 0, V.int .i64 0, V.int .i64 0, V.int .i64 0,
 V.int .i64 0, V.int .i64 0, V.int .i64 0, V.int .i64 0, V.int .i64 0, V.int .i64 0, V.int .i64 0, V.int .i64 0, V.int .i64 0, V.int .i64 0, V.int .i64 0, V.int .i64 0, V.int .i64 0, V.int .i64 0,
 V.int .i64 0, V.int .i64 0, V.int .i64 0, V.int .i64 0, V.int .i64 0, V.int .i64 0, V.int .i64 0, V.int .i64 0, V.int .i64 0, V.int .i64 0, V.int .i64 0, V.int .i64 0, V.int .i64 0, V.int .i64 0,
 V.int .i64 0, V.int .i64 0, V.int .i64 0, V.int .i64 0, V.int .i64 0, V.int .i64 0, V.int .i64 0, V.int .i64 0, V.int .i64 0, V.int .i64 0, V.int .i64 0, V.int .i64 0, V.int .i64 0, V.int .i64 0,
 V.int .i64 0, V.int .i64 0, V.int .i64 0, V.int .i64 0, V.int .i64 0, V.int .i64 0, V.int .i64 0, V.int .i64 0, V.int .i64 0, V.int .i64 0] false] else O.L 0 187 10 [true, true, true, true, true,
 true, false, true] [] k [(4, V.ptr 0 0), (17, V.ref 1), (18, V.int .i64 0)] [Ob.box 282 y5 false, Ob.row 5 0 [] false]
theorem e187l1 (k m q0 q1 : Nat) (y1 : Nat) (y2 : List V) (y3 : Int) (y4 : List V) (y5 : List V) : runL C k 187 0 [true, true, true, true, false, true] [] (m + 1) [(3, V.ptr 0 0), (4, V.ptr 1 0), (5,
 V.sl y1 y2), (6, V.int .i64 y3)] [Ob.box 280 y4 false, Ob.box 282 y5 false] = T187l1 (orc C k) k m q0 q1 y1 y2 y3 y4 y5 := by kernel_rfl
theorem E187l1 (y1 : Nat) (y2 : List V) (y3 : Int) (y4 : List V) (y5 : List V) {r : V} (h : T187l1 (orcE C) 0 0 0 0 y1 y2 y3 y4 y5 = some r) : loopE C 187 0 [true, true, true, true, false, true] []
 [(3, V.ptr 0 0), (4, V.ptr 1 0), (5, V.sl y1 y2), (6, V.int .i64 y3)] [Ob.box 280 y4 false, Ob.box 282 y5 false] = some r := ofL (j := 0) (F := fun s => T187l1 (orc C s.k) s.k s.m 0 0 y1 y2 y3 y4 y5)
 (fs0 fun k m => e187l1 k m 0 0 y1 y2 y3 y4 y5) (by
  unfold T187l1
  repeat' first | with_reducible exact cC | with_reducible refine cF ?_ ?_ | exact cD0 gK | exact cD1 gK gM) h

noncomputable def T274l1 (O : Orc) (k m q0 q1 : Nat) (y1 : Nat) (y2 : List V) (y3 : Int) (y4 : Nat) (y5 : List V) : Option V := bif decide (y3 < 4) then need (O.R 0 299 [V.sl y1 y2, V.int .i64 y3]) fun
 x1 => asTup (some x1) fun x2 => asOsl x2[0]? fun x3 x4 => must (x4.all flatV) (must (true && (y4 + 1).ble 140737488355328 && ((y4 + 1) * 24).ble 140737488355328) (O.L 0 274 0 [true, true, false, true]
 [] m [(0, V.sl y1 y2), (3, V.ref 0), (4, V.int .i64 (IntKind.i64.wrap (y3 + 1)))] [Ob.nrow [] 22 (y4 + 1) (y5 ++ [V.own false 5 1 x3 x4])])) else some (V.tup [V.osl y4 y5])
theorem e274l1 (k m q0 q1 : Nat) (y1 : Nat) (y2 : List V) (y3 : Int) (y4 : Nat) (y5 : List V) : runL C k 274 0 [true, true, false, true] [] (m + 1) [(0, V.sl y1 y2), (3, V.ref 0), (4, V.int .i64 y3)]
 [Ob.nrow [] 22 y4 y5] = T274l1 (orc C k) k m q0 q1 y1 y2 y3 y4 y5 := by kernel_rfl
theorem E274l1 (y1 : Nat) (y2 : List V) (y3 : Int) (y4 : Nat) (y5 : List V) {r : V} (h : T274l1 (orcE C) 0 0 0 0 y1 y2 y3 y4 y5 = some r) : loopE C 274 0 [true, true, false, true] [] [(0, V.sl y1 y2),
 (3, V.ref 0), (4, V.int .i64 y3)] [Ob.nrow [] 22 y4 y5] = some r := ofL (j := 0) (F := fun s => T274l1 (orc C s.k) s.k s.m 0 0 y1 y2 y3 y4 y5) (fs0 fun k m => e274l1 k m 0 0 y1 y2 y3 y4 y5) (by
  unfold T274l1
  repeat' first | with_reducible exact cC | with_reducible refine cN cR fun _ => ?_ | with_reducible refine cT fun _ => ?_ | with_reducible refine cM ?_ | with_reducible refine cF ?_ ?_ | with_reducible refine cO fun _ _ => ?_ | with_reducible refine cN cC fun _ => ?_ | with_reducible exact cR | exact cD0 gM) h

noncomputable def T298 (O : Orc) (k m q0 q1 : Nat) (y1 : Nat) (y2 : List V) (y3 : Int) : Option V := bif (↑y1 : Int) == 1 then some (V.tup [V.osl 0 []]) else need (O.R 0 269 [V.int .i64 (↑y1 : Int)])
 fun x1 => asTup (some x1) fun x2 => PI.asInt .i64 x2[0]? fun x3 => bif decide (y3 < x3) then must (decide (0 ≤ x3) && decide (x3 ≤ (↑y1 : Int))) (must (decide (0 ≤ x3) && decide (x3 ≤ (↑y1 : Int)))
 (need (O.R 0 298 [V.sl (x3.toNat - 0) (List.take ((x3.toNat - 0) * 1) (List.drop 0 y2)), V.int .i64 y3]) fun x4 => asTup (some x4) fun x5 => asOsl x5[0]? fun x6 x7 => need (O.R 0 210 [V.sl (y1 -
 x3.toNat) (List.take ((y1 - x3.toNat) * 1) (List.drop (x3.toNat * 1) y2))]) fun x8 => asTup (some x8) fun x9 => asOsl x9[0]? fun x10 x11 => must (x11.all flatV) (must (true && (x6 + 1).ble
 140737488355328 && ((x6 + 1) * 24).ble 140737488355328) (some (V.tup [V.osl (x6 + 1) (x7 ++ [V.own false 5 1 x10 x11])]))))) else must (decide (0 ≤ x3) && decide (x3 ≤ (↑y1 : Int))) (must (decide (0 ≤
 x3) && decide (x3 ≤ (↑y1 : Int))) (need (O.R 0 298 [V.sl (y1 - x3.toNat) (List.take ((y1 - x3.toNat) * 1) (List.drop (x3.toNat * 1) y2)), V.int .i64 (IntKind.i64.wrap (y3 - x3))]) fun x12 => asTup
 (some x12) fun x13 => asOsl x13[0]? fun x14 x15 => need (O.R 0 210 [V.sl (x3.toNat - 0) (List.take ((x3.toNat - 0) * 1) (List.drop 0 y2))]) fun x16 => asTup (some x16) fun x17 => asOsl x17[0]? fun x18
 x19 => must (x19.all flatV) (must (true && (x14 + 1).ble 140737488355328 && ((x14 + 1) * 24).ble 140737488355328) (some (V.tup [V.osl (x14 + 1) (x15 ++ [V.own false 5 1 x18 x19])])))))
theorem e298 (k m q0 q1 : Nat) (y1 : Nat) (y2 : List V) (y3 : Int) : runV C (k + 1) 298 [V.sl y1 y2, V.int .i64 y3] = T298 (orc C k) k m q0 q1 y1 y2 y3 := by kernel_rfl
theorem E298 (y1 : Nat) (y2 : List V) (y3 : Int) {r : V} (h : T298 (orcE C) 0 0 0 0 y1 y2 y3 = some r) : runE C 298 [V.sl y1 y2, V.int .i64 y3] = some r := ofR (F := fun s => T298 (orc C s.k) s.k s.m 0
 0 y1 y2 y3) (fun k => e298 k k 0 0 y1 y2 y3) (by
  unfold T298
  repeat' first | with_reducible exact cC | with_reducible refine cN cR fun _ => ?_ | with_reducible refine cT fun _ => ?_ | with_reducible refine cI fun _ => ?_ | with_reducible refine cM ?_ | with_reducible refine cF ?_ ?_ | with_reducible refine cO fun _ _ => ?_ | with_reducible refine cN cC fun _ => ?_ | with_reducible exact cR) h

noncomputable def T275l1 (O : Orc) (k m q0 q1 : Nat) (y1 : Int) (y2 : Int) (y3 : Nat) (y4 : List V) (y5 : Nat) (y6 : List V) : Option V := bif decide (y2 < 4) then O.L 0 275 2 [true, true, true, true,
 false, true, false, true, false, false, true] [m] k [(3, V.ref 0), (4, V.ref 1), (5, V.int .i64 y1), (6, V.int .i64 y2), (7, V.int .i64 3)] [Ob.row 5 y3 y4 false, Ob.row 2 y5 y6 false] else must (true
 && (y5 + 3).ble 140737488355328 && ((y5 + 3) * 8).ble 140737488355328) (must (false || (y6 ++ [V.int .i64 (IntKind.i64.wrap (y1.tdiv 16)), V.int .i64 ((IntKind.i64.wrap (y1.tdiv 4)).tmod 4), V.int
 .i64 (y1.tmod 4)]).all flatV) (some (V.tup [V.osl (y5 + 3) (y6 ++ [V.int .i64 (IntKind.i64.wrap (y1.tdiv 16)), V.int .i64 ((IntKind.i64.wrap (y1.tdiv 4)).tmod 4), V.int .i64 (y1.tmod 4)])])))
theorem e275l1 (k m q0 q1 : Nat) (y1 : Int) (y2 : Int) (y3 : Nat) (y4 : List V) (y5 : Nat) (y6 : List V) : runL C k 275 0 [true, true, true, true, false, true] [] (m + 1) [(3, V.ref 0), (4, V.ref 1),
 (5, V.int .i64 y1), (6, V.int .i64 y2)] [Ob.row 5 y3 y4 false, Ob.row 2 y5 y6 false] = T275l1 (orc C k) k m q0 q1 y1 y2 y3 y4 y5 y6 := by kernel_rfl
theorem E275l1 (y1 : Int) (y2 : Int) (y3 : Nat) (y4 : List V) (y5 : Nat) (y6 : List V) {r : V} (h : T275l1 (orcE C) 0 0 0 0 y1 y2 y3 y4 y5 y6 = some r) : loopE C 275 0 [true, true, true, true, false,
 true] [] [(3, V.ref 0), (4, V.ref 1), (5, V.int .i64 y1), (6, V.int .i64 y2)] [Ob.row 5 y3 y4 false, Ob.row 2 y5 y6 false] = some r := ofL (j := 0) (F := fun s => T275l1 (orc C s.k) s.k s.m 0 0 y1 y2
 y3 y4 y5 y6) (fs0 fun k m => e275l1 k m 0 0 y1 y2 y3 y4 y5 y6) (by
  unfold T275l1
  repeat' first | with_reducible exact cC | with_reducible refine cM ?_ | with_reducible refine cF ?_ ?_ | exact cD1 gK gM) h

noncomputable def T277 (O : Orc) (k m q0 q1 : Nat) (y1 : Nat) (y2 : List V) (y3 : Int) (y4 : Int) : Option V := must (decide (y2.length = y1 * 1)) (must (true && (0 + y1).ble 140737488355328 && ((0 +
 y1) * 1).ble 140737488355328) (must (true && (0 + y1 + 2).ble 140737488355328 && ((0 + y1 + 2) * 1).ble 140737488355328) (need (O.R 0 244 [V.str { data := #[(107 : UInt8), (101 : UInt8), (121 :
 UInt8)] }, V.sl (0 + y1 + 2) (y2 ++ [V.int .u8 (IntKind.u8.wrap y3), V.int .u8 (IntKind.u8.wrap y4)])]) fun x1 => asTup (some x1) fun x2 => asOsl x2[0]? fun x3 x4 => must (false || x4.all flatV) (some
 (V.tup [V.osl x3 x4])))))
theorem e277 (k m q0 q1 : Nat) (y1 : Nat) (y2 : List V) (y3 : Int) (y4 : Int) : runV C (k + 1) 277 [V.sl y1 y2, V.int .i64 y3, V.int .i64 y4] = T277 (orc C k) k m q0 q1 y1 y2 y3 y4 := by kernel_rfl
theorem E277 (y1 : Nat) (y2 : List V) (y3 : Int) (y4 : Int) {r : V} (h : T277 (orcE C) 0 0 0 0 y1 y2 y3 y4 = some r) : runE C 277 [V.sl y1 y2, V.int .i64 y3, V.int .i64 y4] = some r := ofR (F := fun s
 => T277 (orc C s.k) s.k s.m 0 0 y1 y2 y3 y4) (fun k => e277 k k 0 0 y1 y2 y3 y4) (by
  unfold T277
  repeat' first | with_reducible exact cC | with_reducible refine cN cR fun _ => ?_ | with_reducible refine cT fun _ => ?_ | with_reducible refine cM ?_ | with_reducible refine cO fun _ _ => ?_ | with_reducible refine cN cC fun _ => ?_ | with_reducible exact cR) h

noncomputable def T276 (O : Orc) (k m q0 q1 : Nat) (y1 : Nat) (y2 : List V) (y3 : Int) : Option V := O.L 0 276 0 [true, false] [] k [(0, V.sl y1 y2), (1, V.int .i64 y3)] []
theorem e276 (k m q0 q1 : Nat) (y1 : Nat) (y2 : List V) (y3 : Int) : runV C (k + 1) 276 [V.sl y1 y2, V.int .i64 y3] = T276 (orc C k) k m q0 q1 y1 y2 y3 := by kernel_rfl
theorem E276 (y1 : Nat) (y2 : List V) (y3 : Int) {r : V} (h : T276 (orcE C) 0 0 0 0 y1 y2 y3 = some r) : runE C 276 [V.sl y1 y2, V.int .i64 y3] = some r := ofR (F := fun s => T276 (orc C s.k) s.k s.m 0
 0 y1 y2 y3) (fun k => e276 k k 0 0 y1 y2 y3) (by
  unfold T276
  repeat' first | with_reducible exact cC | exact cD0 gK) h

noncomputable def T196 (O : Orc) (k m q0 q1 : Nat) (y1 : Nat) (y2 : List V) : Option V := some (V.tup [V.bool ((↑y1 : Int) == 32)])
theorem e196 (k m q0 q1 : Nat) (y1 : Nat) (y2 : List V) : runV C (k + 1) 196 [V.sl y1 y2] = T196 (orc C k) k m q0 q1 y1 y2 := by kernel_rfl
theorem E196 (y1 : Nat) (y2 : List V) {r : V} (h : T196 (orcE C) 0 0 0 0 y1 y2 = some r) : runE C 196 [V.sl y1 y2] = some r := ofR (F := fun s => T196 (orc C s.k) s.k s.m 0 0 y1 y2) (fun k => e196 k k
 0 0 y1 y2) (by
  unfold T196
  exact cC) h

noncomputable def T183l2 (O : Orc) (k m q0 q1 : Nat) (y1 : Int) (y2 : Nat) (y3 : List V) : Option V := bif (↑y2 : Int).tmod 64 != 56 then must (true && (y2 + 1).ble 140737488355328 && ((y2 + 1) *
 1).ble 140737488355328) (O.L 0 183 2 [true, true, true, true, true, false] [] m [(3, V.ref 0), (6, V.int .u64 y1)] [Ob.row 5 (y2 + 1) (y3 ++ [V.int .u8 0]) false]) else O.L 0 183 4 [true, true, true,
 true, true, true, false, true] [] k [(3, V.ref 0), (6, V.int .u64 y1), (7, V.int .i64 56)] [Ob.row 5 y2 y3 false]
theorem e183l2 (k m q0 q1 : Nat) (y1 : Int) (y2 : Nat) (y3 : List V) : runL C k 183 2 [true, true, true, true, true, false] [] (m + 1) [(3, V.ref 0), (6, V.int .u64 y1)] [Ob.row 5 y2 y3 false] = T183l2
 (orc C k) k m q0 q1 y1 y2 y3 := by kernel_rfl
theorem E183l2 (y1 : Int) (y2 : Nat) (y3 : List V) {r : V} (h : T183l2 (orcE C) 0 0 0 0 y1 y2 y3 = some r) : loopE C 183 2 [true, true, true, true, true, false] [] [(3, V.ref 0), (6, V.int .u64 y1)]
 [Ob.row 5 y2 y3 false] = some r := ofL (j := 0) (F := fun s => T183l2 (orc C s.k) s.k s.m 0 0 y1 y2 y3) (fs0 fun k m => e183l2 k m 0 0 y1 y2 y3) (by
  unfold T183l2
  repeat' first | with_reducible exact cC | with_reducible refine cM ?_ | with_reducible refine cF ?_ ?_ | exact cD0 gK | exact cD0 gM) h

noncomputable def T222l1 (O : Orc) (k m q0 q1 : Nat) (y1 : Nat) (y2 : List V) (y3 : Int) (y4 : Int) (y5 : Nat) (y6 : List V) : Option V := bif decide (y4 < 19) then need (O.R 0 215 [V.sl y1 y2, V.int
 .i64 y3, V.int .i64 y4]) fun x1 => asTup (some x1) fun x2 => asOsl x2[0]? fun x3 x4 => need (O.R 0 214 [V.sl x3 x4, V.int .i64 3]) fun x5 => asTup (some x5) fun x6 => asOsl x6[0]? fun x7 x8 => must
 (decide (x8.length = x7 * 1)) (must (true && (y5 + x7).ble 140737488355328 && ((y5 + x7) * 1).ble 140737488355328) (O.L 0 222 0 [true, true, false, true] [] m [(0, V.sl y1 y2), (1, V.int .i64 y3), (5,
 V.ref 0), (8, V.int .i64 (IntKind.i64.wrap (y4 + 1)))] [Ob.row 5 (y5 + x7) (y6 ++ x8) false])) else must (false || y6.all flatV) (some (V.tup [V.osl y5 y6]))
theorem e222l1 (k m q0 q1 : Nat) (y1 : Nat) (y2 : List V) (y3 : Int) (y4 : Int) (y5 : Nat) (y6 : List V) : runL C k 222 0 [true, true, false, true] [] (m + 1) [(0, V.sl y1 y2), (1, V.int .i64 y3), (5,
 V.ref 0), (8, V.int .i64 y4)] [Ob.row 5 y5 y6 false] = T222l1 (orc C k) k m q0 q1 y1 y2 y3 y4 y5 y6 := by kernel_rfl
theorem E222l1 (y1 : Nat) (y2 : List V) (y3 : Int) (y4 : Int) (y5 : Nat) (y6 : List V) {r : V} (h : T222l1 (orcE C) 0 0 0 0 y1 y2 y3 y4 y5 y6 = some r) : loopE C 222 0 [true, true, false, true] [] [(0,
 V.sl y1 y2), (1, V.int .i64 y3), (5, V.ref 0), (8, V.int .i64 y4)] [Ob.row 5 y5 y6 false] = some r := ofL (j := 0) (F := fun s => T222l1 (orc C s.k) s.k s.m 0 0 y1 y2 y3 y4 y5 y6) (fs0 fun k m =>
 e222l1 k m 0 0 y1 y2 y3 y4 y5 y6) (by
  unfold T222l1
  repeat' first | with_reducible exact cC | with_reducible refine cN cR fun _ => ?_ | with_reducible refine cT fun _ => ?_ | with_reducible refine cM ?_ | with_reducible refine cF ?_ ?_ | with_reducible refine cO fun _ _ => ?_ | with_reducible refine cN cC fun _ => ?_ | with_reducible exact cR | exact cD0 gM) h

noncomputable def T220l1 (O : Orc) (k m q0 q1 : Nat) (y1 : Int) (y2 : Int) : Option V := bif decide (IntKind.i64.wrap (2 * y2) < y1) then O.L 0 220 0 [true, true, false] [] m [(0, V.int .i64 y1), (3,
 V.int .i64 (IntKind.i64.wrap (y2 * 2)))] [] else some (V.tup [V.int .i64 y2])
theorem e220l1 (k m q0 q1 : Nat) (y1 : Int) (y2 : Int) : runL C k 220 0 [true, true, false] [] (m + 1) [(0, V.int .i64 y1), (3, V.int .i64 y2)] [] = T220l1 (orc C k) k m q0 q1 y1 y2 := by kernel_rfl
theorem E220l1 (y1 : Int) (y2 : Int) {r : V} (h : T220l1 (orcE C) 0 0 0 0 y1 y2 = some r) : loopE C 220 0 [true, true, false] [] [(0, V.int .i64 y1), (3, V.int .i64 y2)] [] = some r := ofL (j := 0) (F
 := fun s => T220l1 (orc C s.k) s.k s.m 0 0 y1 y2) (fs0 fun k m => e220l1 k m 0 0 y1 y2) (by
  unfold T220l1
  repeat' first | with_reducible exact cC | with_reducible refine cF ?_ ?_ | exact cD0 gM) h

noncomputable def T219 (O : Orc) (k m q0 q1 : Nat) (y1 : Nat) (y2 : List V) : Option V := need (O.R 0 216 [V.str { data := #[(108 : UInt8), (101 : UInt8), (97 : UInt8), (102 : UInt8)] }, V.sl 1 [V.sl
 y1 y2]]) fun x1 => asTup (some x1) fun x2 => asOsl x2[0]? fun x3 x4 => must (false || x4.all flatV) (some (V.tup [V.osl x3 x4]))
theorem e219 (k m q0 q1 : Nat) (y1 : Nat) (y2 : List V) : runV C (k + 1) 219 [V.sl y1 y2] = T219 (orc C k) k m q0 q1 y1 y2 := by kernel_rfl
theorem E219 (y1 : Nat) (y2 : List V) {r : V} (h : T219 (orcE C) 0 0 0 0 y1 y2 = some r) : runE C 219 [V.sl y1 y2] = some r := ofR (F := fun s => T219 (orc C s.k) s.k s.m 0 0 y1 y2) (fun k => e219 k k
 0 0 y1 y2) (by
  unfold T219
  repeat' first | with_reducible exact cC | with_reducible refine cN cR fun _ => ?_ | with_reducible refine cT fun _ => ?_ | with_reducible refine cM ?_ | with_reducible refine cO fun _ _ => ?_ | with_reducible refine cN cC fun _ => ?_ | with_reducible exact cR) h

noncomputable def T221 (O : Orc) (k m q0 q1 : Nat) (y1 : Nat) (y2 : List V) (y3 : Nat) (y4 : List V) : Option V := need (O.R 0 216 [V.str { data := #[(110 : UInt8), (111 : UInt8), (100 : UInt8), (101 :
 UInt8)] }, V.sl 2 [V.sl y1 y2, V.sl y3 y4]]) fun x1 => asTup (some x1) fun x2 => asOsl x2[0]? fun x3 x4 => must (false || x4.all flatV) (some (V.tup [V.osl x3 x4]))
theorem e221 (k m q0 q1 : Nat) (y1 : Nat) (y2 : List V) (y3 : Nat) (y4 : List V) : runV C (k + 1) 221 [V.sl y1 y2, V.sl y3 y4] = T221 (orc C k) k m q0 q1 y1 y2 y3 y4 := by kernel_rfl
theorem E221 (y1 : Nat) (y2 : List V) (y3 : Nat) (y4 : List V) {r : V} (h : T221 (orcE C) 0 0 0 0 y1 y2 y3 y4 = some r) : runE C 221 [V.sl y1 y2, V.sl y3 y4] = some r := ofR (F := fun s => T221 (orc C
 s.k) s.k s.m 0 0 y1 y2 y3 y4) (fun k => e221 k k 0 0 y1 y2 y3 y4) (by
  unfold T221
  repeat' first | with_reducible exact cC | with_reducible refine cN cR fun _ => ?_ | with_reducible refine cT fun _ => ?_ | with_reducible refine cM ?_ | with_reducible refine cO fun _ _ => ?_ | with_reducible refine cN cC fun _ => ?_ | with_reducible exact cR) h

noncomputable def T251l1 (O : Orc) (k m q0 q1 : Nat) (y1 : Nat) (y2 : List V) (y3 : Nat) (y4 : List V) : Option V := bif (↑y3 : Int).tmod 64 != 56 then must (true && (y3 + 1).ble 140737488355328 &&
 ((y3 + 1) * 1).ble 140737488355328) (O.L 0 251 0 [true, true, false] [] m [(0, V.sl y1 y2), (3, V.ref 0)] [Ob.row 5 (y3 + 1) (y4 ++ [V.int .u8 0]) false]) else O.L 0 251 2 [true, true, true, true,
 false, true] [] k [(3, V.ref 0), (4, V.int .i64 (IntKind.i64.wrap ((↑y1 : Int) * 8))), (5, V.int .i64 7)] [Ob.row 5 y3 y4 false]
theorem e251l1 (k m q0 q1 : Nat) (y1 : Nat) (y2 : List V) (y3 : Nat) (y4 : List V) : runL C k 251 0 [true, true, false] [] (m + 1) [(0, V.sl y1 y2), (3, V.ref 0)] [Ob.row 5 y3 y4 false] = T251l1 (orc C
 k) k m q0 q1 y1 y2 y3 y4 := by kernel_rfl
theorem E251l1 (y1 : Nat) (y2 : List V) (y3 : Nat) (y4 : List V) {r : V} (h : T251l1 (orcE C) 0 0 0 0 y1 y2 y3 y4 = some r) : loopE C 251 0 [true, true, false] [] [(0, V.sl y1 y2), (3, V.ref 0)]
 [Ob.row 5 y3 y4 false] = some r := ofL (j := 0) (F := fun s => T251l1 (orc C s.k) s.k s.m 0 0 y1 y2 y3 y4) (fs0 fun k m => e251l1 k m 0 0 y1 y2 y3 y4) (by
  unfold T251l1
  repeat' first | with_reducible exact cC | with_reducible refine cM ?_ | with_reducible refine cF ?_ ?_ | exact cD0 gK | exact cD0 gM) h

noncomputable def T187l2 (O : Orc) (k m q0 q1 : Nat) (y1 : Nat) (y2 : List V) (y3 : Int) (y4 : Int) (y5 : List V) (y6 : List V) (y7 : List V) : Option V := bif decide (y4 < 16) then must (decide (0 ≤
 IntKind.i64.wrap (IntKind.i64.wrap (y3 + IntKind.i64.wrap (4 * y4)) + 4)) && decide (IntKind.i64.wrap (IntKind.i64.wrap (y3 + IntKind.i64.wrap (4 * y4)) + 4) ≤ (↑y1 : Int))) (must (decide (0 ≤
 IntKind.i64.wrap (y3 + IntKind.i64.wrap (4 * y4))) && decide (IntKind.i64.wrap (y3 + IntKind.i64.wrap (4 * y4)) ≤ (↑(IntKind.i64.wrap (IntKind.i64.wrap (y3 + IntKind.i64.wrap (4 * y4)) + 4)).toNat :
 Int))) (need (O.R 0 230 [V.sl ((IntKind.i64.wrap (IntKind.i64.wrap (y3 + IntKind.i64.wrap (4 * y4)) + 4)).toNat - (IntKind.i64.wrap (y3 + IntKind.i64.wrap (4 * y4))).toNat) (List.take
 (((IntKind.i64.wrap (IntKind.i64.wrap (y3 + IntKind.i64.wrap (4 * y4)) + 4)).toNat - (IntKind.i64.wrap (y3 + IntKind.i64.wrap (4 * y4))).toNat) * 1) (List.drop ((IntKind.i64.wrap (y3 +
 IntKind.i64.wrap (4 * y4))).toNat * 1) y2))]) fun x1 => asTup (some x1) fun x2 => PI.asInt .i64 x2[0]? fun x3 => must (inB y4 64) (must ((V.int .i64 x3).solid && true && (0 + y4.toNat * 1 + 1).ble
 y7.length && flatB C 280 [V.int .i64 x3]) (O.L 0 187 2 [true, true, true, true, false, true, false, true, false, false, true, false, true] [q0] m [(3, V.ptr 0 0), (4, V.ptr 1 0), (5, V.sl y1 y2), (6,
 V.int .i64 y3), (7, V.ptr 2 0), (8, V.int .i64 (IntKind.i64.wrap (y4 + 1)))] [Ob.box 280 y5 false, Ob.box 282 y6 false, Ob.box 280 (splice y7 (0 + y4.toNat * 1) [V.int .i64 x3]) false])))) else O.L 0
 187 4 [true, true, true, true, false, true, false, true, false, false, true, true, false, true] [q0] k [(3, V.ptr 0 0), (4, V.ptr 1 0), (5, V.sl y1 y2), (6, V.int .i64 y3), (7, V.ptr 2 0), (9, V.int
 .i64 16)] [Ob.box 280 y5 false, Ob.box 282 y6 false, Ob.box 280 y7 false]
theorem e187l2 (k m q0 q1 : Nat) (y1 : Nat) (y2 : List V) (y3 : Int) (y4 : Int) (y5 : List V) (y6 : List V) (y7 : List V) : runL C k 187 2 [true, true, true, true, false, true, false, true, false,
 false, true, false, true] [q0] (m + 1) [(3, V.ptr 0 0), (4, V.ptr 1 0), (5, V.sl y1 y2), (6, V.int .i64 y3), (7, V.ptr 2 0), (8, V.int .i64 y4)] [Ob.box 280 y5 false, Ob.box 282 y6 false, Ob.box 280
 y7 false] = T187l2 (orc C k) k m q0 q1 y1 y2 y3 y4 y5 y6 y7 := by kernel_rfl
theorem E187l2 (y1 : Nat) (y2 : List V) (y3 : Int) (y4 : Int) (y5 : List V) (y6 : List V) (y7 : List V) {r : V} (h : T187l2 (orcE C) 0 0 0 0 y1 y2 y3 y4 y5 y6 y7 = some r) : loopE C 187 2 [true, true,
 true, true, false, true, false, true, false, false, true, false, true] [0] [(3, V.ptr 0 0), (4, V.ptr 1 0), (5, V.sl y1 y2), (6, V.int .i64 y3), (7, V.ptr 2 0), (8, V.int .i64 y4)] [Ob.box 280 y5
 false, Ob.box 282 y6 false, Ob.box 280 y7 false] = some r := ofL (j := 0) (F := fun s => T187l2 (orc C s.k) s.k s.m (s.fs.getD 0 0) 0 y1 y2 y3 y4 y5 y6 y7) (fs1 fun k m q0 => e187l2 k m q0 0 y1 y2 y3
 y4 y5 y6 y7) (by
  unfold T187l2
  repeat' first | with_reducible exact cC | with_reducible refine cN cR fun _ => ?_ | with_reducible refine cT fun _ => ?_ | with_reducible refine cI fun _ => ?_ | with_reducible refine cM ?_ | with_reducible refine cF ?_ ?_ | with_reducible refine cN cC fun _ => ?_ | with_reducible exact cR | exact cD1 gK (gF (i := 0) (by decide)) | exact cD1 gM (gF (i := 0) (by decide))) h

noncomputable def T187l3 (O : Orc) (k m q0 q1 : Nat) (y1 : Int) (y2 : List V) (y3 : Nat) (y4 : List V) : Option V := bif decide (y1 < 8) then O.L 0 187 12 [true, true, true, true, true, true, false,
 true, false, true, false, false, true] [m] k [(4, V.ptr 0 0), (17, V.ref 1), (18, V.int .i64 y1), (19, V.int .i64 3)] [Ob.box 282 y2 false, Ob.row 5 y3 y4 false] else must (false || y4.all flatV)
 (some (V.tup [V.osl y3 y4]))
theorem e187l3 (k m q0 q1 : Nat) (y1 : Int) (y2 : List V) (y3 : Nat) (y4 : List V) : runL C k 187 10 [true, true, true, true, true, true, false, true] [] (m + 1) [(4, V.ptr 0 0), (17, V.ref 1), (18,
 V.int .i64 y1)] [Ob.box 282 y2 false, Ob.row 5 y3 y4 false] = T187l3 (orc C k) k m q0 q1 y1 y2 y3 y4 := by kernel_rfl
theorem E187l3 (y1 : Int) (y2 : List V) (y3 : Nat) (y4 : List V) {r : V} (h : T187l3 (orcE C) 0 0 0 0 y1 y2 y3 y4 = some r) : loopE C 187 10 [true, true, true, true, true, true, false, true] [] [(4,
 V.ptr 0 0), (17, V.ref 1), (18, V.int .i64 y1)] [Ob.box 282 y2 false, Ob.row 5 y3 y4 false] = some r := ofL (j := 0) (F := fun s => T187l3 (orc C s.k) s.k s.m 0 0 y1 y2 y3 y4) (fs0 fun k m => e187l3 k
 m 0 0 y1 y2 y3 y4) (by
  unfold T187l3
  repeat' first | with_reducible exact cC | with_reducible refine cM ?_ | with_reducible refine cF ?_ ?_ | exact cD1 gK gM) h

noncomputable def T299 (O : Orc) (k m q0 q1 : Nat) (y1 : Nat) (y2 : List V) (y3 : Int) : Option V := O.L 0 299 0 [true, true, false, true] [] k [(0, V.sl y1 y2), (1, V.int .i64 y3), (5, V.ref 0), (6,
 V.int .i64 0)] [Ob.row 5 0 [] false]
theorem e299 (k m q0 q1 : Nat) (y1 : Nat) (y2 : List V) (y3 : Int) : runV C (k + 1) 299 [V.sl y1 y2, V.int .i64 y3] = T299 (orc C k) k m q0 q1 y1 y2 y3 := by kernel_rfl
theorem E299 (y1 : Nat) (y2 : List V) (y3 : Int) {r : V} (h : T299 (orcE C) 0 0 0 0 y1 y2 y3 = some r) : runE C 299 [V.sl y1 y2, V.int .i64 y3] = some r := ofR (F := fun s => T299 (orc C s.k) s.k s.m 0
 0 y1 y2 y3) (fun k => e299 k k 0 0 y1 y2 y3) (by
  unfold T299
  repeat' first | with_reducible exact cC | exact cD0 gK) h

noncomputable def T269 (O : Orc) (k m q0 q1 : Nat) (y1 : Int) : Option V := O.L 0 269 0 [true, true, false] [] k [(0, V.int .i64 y1), (3, V.int .i64 1)] []
theorem e269 (k m q0 q1 : Nat) (y1 : Int) : runV C (k + 1) 269 [V.int .i64 y1] = T269 (orc C k) k m q0 q1 y1 := by kernel_rfl
theorem E269 (y1 : Int) {r : V} (h : T269 (orcE C) 0 0 0 0 y1 = some r) : runE C 269 [V.int .i64 y1] = some r := ofR (F := fun s => T269 (orc C s.k) s.k s.m 0 0 y1) (fun k => e269 k k 0 0 y1) (by
  unfold T269
  repeat' first | with_reducible exact cC | exact cD0 gK) h

noncomputable def T210 (O : Orc) (k m q0 q1 : Nat) (y1 : Nat) (y2 : List V) : Option V := bif (↑y1 : Int) == 0 then need (O.R 0 244 [V.str { data := #[(110 : UInt8), (111 : UInt8), (110 : UInt8), (101
 : UInt8)] }, V.sl 0 []]) fun x1 => asTup (some x1) fun x2 => asOsl x2[0]? fun x3 x4 => must (false || x4.all flatV) (some (V.tup [V.osl x3 x4])) else bif (↑y1 : Int) == 1 then must (inB 0 y1) (must
 (decide (0 < y2.length)) (asSl y2[0]? fun x5 x6 => need (O.R 0 268 [V.sl x5 x6]) fun x7 => asTup (some x7) fun x8 => asOsl x8[0]? fun x9 x10 => must (false || x10.all flatV) (some (V.tup [V.osl x9
 x10])))) else need (O.R 0 269 [V.int .i64 (↑y1 : Int)]) fun x11 => asTup (some x11) fun x12 => PI.asInt .i64 x12[0]? fun x13 => must (decide (0 ≤ x13) && decide (x13 ≤ (↑y1 : Int))) (must (decide (0 ≤
 x13) && decide (x13 ≤ (↑y1 : Int))) (need (O.R 0 210 [V.sl (x13.toNat - 0) (List.take ((x13.toNat - 0) * 1) (List.drop 0 y2))]) fun x14 => asTup (some x14) fun x15 => asOsl x15[0]? fun x16 x17 => need
 (O.R 0 210 [V.sl (y1 - x13.toNat) (List.take ((y1 - x13.toNat) * 1) (List.drop (x13.toNat * 1) y2))]) fun x18 => asTup (some x18) fun x19 => asOsl x19[0]? fun x20 x21 => need (O.R 0 270 [V.sl x16 x17,
 V.sl x20 x21]) fun x22 => asTup (some x22) fun x23 => asOsl x23[0]? fun x24 x25 => must (false || x25.all flatV) (some (V.tup [V.osl x24 x25]))))
theorem e210 (k m q0 q1 : Nat) (y1 : Nat) (y2 : List V) : runV C (k + 1) 210 [V.sl y1 y2] = T210 (orc C k) k m q0 q1 y1 y2 := by kernel_rfl
theorem E210 (y1 : Nat) (y2 : List V) {r : V} (h : T210 (orcE C) 0 0 0 0 y1 y2 = some r) : runE C 210 [V.sl y1 y2] = some r := ofR (F := fun s => T210 (orc C s.k) s.k s.m 0 0 y1 y2) (fun k => e210 k k
 0 0 y1 y2) (by
  unfold T210
  repeat' first | with_reducible exact cC | with_reducible refine cN cR fun _ => ?_ | with_reducible refine cT fun _ => ?_ | with_reducible refine cI fun _ => ?_ | with_reducible refine cM ?_ | with_reducible refine cF ?_ ?_ | with_reducible refine cL fun _ _ => ?_ | with_reducible refine cO fun _ _ => ?_ | with_reducible refine cN cC fun _ => ?_ | with_reducible exact cR) h

noncomputable def T275l2 (O : Orc) (k m q0 q1 : Nat) (y1 : Int) (y2 : Int) (y3 : Int) (y4 : Nat) (y5 : List V) (y6 : Nat) (y7 : List V) : Option V := bif decide (y3 ≥ 0) then must (inB y2 y4) (PI.asInt
 .u8 y5[y2.toNat * 1]? fun x1 => must (decide (0 ≤ IntKind.u64.wrap (IntKind.i64.wrap (2 * y3)))) (must (true && (y6 + 1).ble 140737488355328 && ((y6 + 1) * 8).ble 140737488355328) (O.L 0 275 2 [true,
 true, true, true, false, true, false, true, false, false, true] [q0] m [(3, V.ref 0), (4, V.ref 1), (5, V.int .i64 (IntKind.i64.wrap (IntKind.i64.wrap (y1 + 3) - IntKind.i64.wrap (PI.bits IntKind.u8
 (fun x1 x2 => x1 &&& x2) (x1.fdiv (2 ^ min (IntKind.u64.wrap (IntKind.i64.wrap (2 * y3))).toNat 8)) 3)))), (6, V.int .i64 y2), (7, V.int .i64 (IntKind.i64.wrap (y3 - 1)))] [Ob.row 5 y4 y5 false,
 Ob.row 2 (y6 + 1) (y7 ++ [V.int .i64 (IntKind.i64.wrap (PI.bits IntKind.u8 (fun x1 x2 => x1 &&& x2) (x1.fdiv (2 ^ min (IntKind.u64.wrap (IntKind.i64.wrap (2 * y3))).toNat 8)) 3))]) false]))) else O.L
 0 275 0 [true, true, true, true, false, true] [] q0 [(3, V.ref 0), (4, V.ref 1), (5, V.int .i64 y1), (6, V.int .i64 (IntKind.i64.wrap (y2 + 1)))] [Ob.row 5 y4 y5 false, Ob.row 2 y6 y7 false]
theorem e275l2 (k m q0 q1 : Nat) (y1 : Int) (y2 : Int) (y3 : Int) (y4 : Nat) (y5 : List V) (y6 : Nat) (y7 : List V) : runL C k 275 2 [true, true, true, true, false, true, false, true, false, false,
 true] [q0] (m + 1) [(3, V.ref 0), (4, V.ref 1), (5, V.int .i64 y1), (6, V.int .i64 y2), (7, V.int .i64 y3)] [Ob.row 5 y4 y5 false, Ob.row 2 y6 y7 false] = T275l2 (orc C k) k m q0 q1 y1 y2 y3 y4 y5 y6
 y7 := by kernel_rfl
theorem E275l2 (y1 : Int) (y2 : Int) (y3 : Int) (y4 : Nat) (y5 : List V) (y6 : Nat) (y7 : List V) {r : V} (h : T275l2 (orcE C) 0 0 0 0 y1 y2 y3 y4 y5 y6 y7 = some r) : loopE C 275 2 [true, true, true,
 true, false, true, false, true, false, false, true] [0] [(3, V.ref 0), (4, V.ref 1), (5, V.int .i64 y1), (6, V.int .i64 y2), (7, V.int .i64 y3)] [Ob.row 5 y4 y5 false, Ob.row 2 y6 y7 false] = some r
 := ofL (j := 0) (F := fun s => T275l2 (orc C s.k) s.k s.m (s.fs.getD 0 0) 0 y1 y2 y3 y4 y5 y6 y7) (fs1 fun k m q0 => e275l2 k m q0 0 y1 y2 y3 y4 y5 y6 y7) (by
  unfold T275l2
  repeat' first | with_reducible exact cC | with_reducible refine cI fun _ => ?_ | with_reducible refine cM ?_ | with_reducible refine cF ?_ ?_ | exact cD0 (gF (i := 0) (by decide)) | exact cD1 gM (gF (i := 0) (by decide))) h

noncomputable def T276l1 (O : Orc) (k m q0 q1 : Nat) (y1 : Nat) (y2 : List V) (y3 : Int) : Option V := bif decide (y3 > 0) then need (O.R 0 244 [V.str { data := #[(115 : UInt8), (116 : UInt8), (101 :
 UInt8), (112 : UInt8)] }, V.sl y1 y2]) fun x1 => asTup (some x1) fun x2 => asOsl x2[0]? fun x3 x4 => O.L 0 276 0 [true, false] [] m [(0, V.ref 0), (1, V.int .i64 (IntKind.i64.wrap (y3 - 1)))] [Ob.row
 5 x3 x4 false] else must (decide (y2.length = y1 * 1)) (must (true && (0 + y1).ble 140737488355328 && ((0 + y1) * 1).ble 140737488355328) (must (false || y2.all flatV) (some (V.tup [V.osl (0 + y1)
 y2]))))
theorem e276l1 (k m q0 q1 : Nat) (y1 : Nat) (y2 : List V) (y3 : Int) : runL C k 276 0 [true, false] [] (m + 1) [(0, V.sl y1 y2), (1, V.int .i64 y3)] [] = T276l1 (orc C k) k m q0 q1 y1 y2 y3 := by
 kernel_rfl
theorem E276l1 (y1 : Nat) (y2 : List V) (y3 : Int) {r : V} (h : T276l1 (orcE C) 0 0 0 0 y1 y2 y3 = some r) : loopE C 276 0 [true, false] [] [(0, V.sl y1 y2), (1, V.int .i64 y3)] [] = some r := ofL (j
 := 0) (F := fun s => T276l1 (orc C s.k) s.k s.m 0 0 y1 y2 y3) (fs0 fun k m => e276l1 k m 0 0 y1 y2 y3) (by
  unfold T276l1
  repeat' first | with_reducible exact cC | with_reducible refine cN cR fun _ => ?_ | with_reducible refine cT fun _ => ?_ | with_reducible refine cM ?_ | with_reducible refine cF ?_ ?_ | with_reducible refine cO fun _ _ => ?_ | with_reducible refine cN cC fun _ => ?_ | with_reducible exact cR | exact cD0 gM) h

noncomputable def T183l3 (O : Orc) (k m q0 q1 : Nat) (y1 : Int) (y2 : Int) (y3 : Nat) (y4 : List V) : Option V := bif decide (y2 ≥ 0) then must (decide (0 ≤ y2)) (must (true && (y3 + 1).ble
 140737488355328 && ((y3 + 1) * 1).ble 140737488355328) (O.L 0 183 4 [true, true, true, true, true, true, false, true] [] m [(3, V.ref 0), (6, V.int .u64 y1), (7, V.int .i64 (IntKind.i64.wrap (y2 -
 8)))] [Ob.row 5 (y3 + 1) (y4 ++ [V.int .u8 (IntKind.u8.wrap (y1.fdiv (2 ^ min y2.toNat 64)))]) false])) else O.L 0 183 6 [true, true, true, true, true, true, true, true, false] [] k [(3, V.ref 0), (8,
 V.ptr 1 0)] [Ob.row 5 y3 y4 false, Ob.box 278 [V.int .u32 1779033703, V.int .u32 3144134277, V.int .u32 1013904242, V.int .u32 2773480762, V.int .u32 1359893119, V.int .u32 2600822924, V.int .u32
 528734635, V.int .u32 1541459225] false]
theorem e183l3 (k m q0 q1 : Nat) (y1 : Int) (y2 : Int) (y3 : Nat) (y4 : List V) : runL C k 183 4 [true, true, true, true, true, true, false, true] [] (m + 1) [(3, V.ref 0), (6, V.int .u64 y1), (7,
 V.int .i64 y2)] [Ob.row 5 y3 y4 false] = T183l3 (orc C k) k m q0 q1 y1 y2 y3 y4 := by kernel_rfl
theorem E183l3 (y1 : Int) (y2 : Int) (y3 : Nat) (y4 : List V) {r : V} (h : T183l3 (orcE C) 0 0 0 0 y1 y2 y3 y4 = some r) : loopE C 183 4 [true, true, true, true, true, true, false, true] [] [(3, V.ref
 0), (6, V.int .u64 y1), (7, V.int .i64 y2)] [Ob.row 5 y3 y4 false] = some r := ofL (j := 0) (F := fun s => T183l3 (orc C s.k) s.k s.m 0 0 y1 y2 y3 y4) (fs0 fun k m => e183l3 k m 0 0 y1 y2 y3 y4) (by
  unfold T183l3
  repeat' first | with_reducible exact cC | with_reducible refine cM ?_ | with_reducible refine cF ?_ ?_ | exact cD0 gK | exact cD0 gM) h

noncomputable def T251l2 (O : Orc) (k m q0 q1 : Nat) (y1 : Int) (y2 : Int) (y3 : Nat) (y4 : List V) : Option V := bif decide (y2 ≥ 0) then must (decide (0 ≤ IntKind.u64.wrap (IntKind.i64.wrap (8 *
 y2)))) (must (true && (y3 + 1).ble 140737488355328 && ((y3 + 1) * 1).ble 140737488355328) (O.L 0 251 2 [true, true, true, true, false, true] [] m [(3, V.ref 0), (4, V.int .i64 y1), (5, V.int .i64
 (IntKind.i64.wrap (y2 - 1)))] [Ob.row 5 (y3 + 1) (y4 ++ [V.int .u8 (IntKind.u8.wrap (y1.fdiv (2 ^ min (IntKind.u64.wrap (IntKind.i64.wrap (8 * y2))).toNat 64)))]) false])) else some (V.tup [V.sl y3
 y4])
theorem e251l2 (k m q0 q1 : Nat) (y1 : Int) (y2 : Int) (y3 : Nat) (y4 : List V) : runL C k 251 2 [true, true, true, true, false, true] [] (m + 1) [(3, V.ref 0), (4, V.int .i64 y1), (5, V.int .i64 y2)]
 [Ob.row 5 y3 y4 false] = T251l2 (orc C k) k m q0 q1 y1 y2 y3 y4 := by kernel_rfl
theorem E251l2 (y1 : Int) (y2 : Int) (y3 : Nat) (y4 : List V) {r : V} (h : T251l2 (orcE C) 0 0 0 0 y1 y2 y3 y4 = some r) : loopE C 251 2 [true, true, true, true, false, true] [] [(3, V.ref 0), (4,
 V.int .i64 y1), (5, V.int .i64 y2)] [Ob.row 5 y3 y4 false] = some r := ofL (j := 0) (F := fun s => T251l2 (orc C s.k) s.k s.m 0 0 y1 y2 y3 y4) (fs0 fun k m => e251l2 k m 0 0 y1 y2 y3 y4) (by
  unfold T251l2
  repeat' first | with_reducible exact cC | with_reducible refine cM ?_ | with_reducible refine cF ?_ ?_ | exact cD0 gM) h

noncomputable def T230 (O : Orc) (k m q0 q1 : Nat) (y1 : Nat) (y2 : List V) : Option V := O.L 0 230 0 [true, true, false, true] [] k [(0, V.sl y1 y2), (3, V.int .i64 0), (4, V.int .i64 0)] []
theorem e230 (k m q0 q1 : Nat) (y1 : Nat) (y2 : List V) : runV C (k + 1) 230 [V.sl y1 y2] = T230 (orc C k) k m q0 q1 y1 y2 := by kernel_rfl
theorem E230 (y1 : Nat) (y2 : List V) {r : V} (h : T230 (orcE C) 0 0 0 0 y1 y2 = some r) : runE C 230 [V.sl y1 y2] = some r := ofR (F := fun s => T230 (orc C s.k) s.k s.m 0 0 y1 y2) (fun k => e230 k k
 0 0 y1 y2) (by
  unfold T230
  repeat' first | with_reducible exact cC | exact cD0 gK) h

noncomputable def T187l4 (O : Orc) (k m q0 q1 : Nat) (y1 : Nat) (y2 : List V) (y3 : Int) (y4 : Int) (y5 : List V) (y6 : List V) (y7 : List V) : Option V := bif decide (y4 < 64) then must (inB
 (IntKind.i64.wrap (y4 - 15)) 64) (PI.asInt .i64 y7[0 + (IntKind.i64.wrap (y4 - 15)).toNat * 1]? fun x1 => must (inB (IntKind.i64.wrap (y4 - 2)) 64) (PI.asInt .i64 y7[0 + (IntKind.i64.wrap (y4 -
 2)).toNat * 1]? fun x2 => need (O.R 0 252 [V.int .i64 x1, V.int .u64 7]) fun x3 => asTup (some x3) fun x4 => PI.asInt .i64 x4[0]? fun x5 => need (O.R 0 252 [V.int .i64 x1, V.int .u64 18]) fun x6 =>
 asTup (some x6) fun x7 => PI.asInt .i64 x7[0]? fun x8 => need (O.R 0 252 [V.int .i64 x2, V.int .u64 17]) fun x9 => asTup (some x9) fun x10 => PI.asInt .i64 x10[0]? fun x11 => need (O.R 0 252 [V.int
 .i64 x2, V.int .u64 19]) fun x12 => asTup (some x12) fun x13 => PI.asInt .i64 x13[0]? fun x14 => must (inB (IntKind.i64.wrap (y4 - 7)) 64) (PI.asInt .i64 y7[0 + (IntKind.i64.wrap (y4 - 7)).toNat * 1]?
 fun x15 => must (inB (IntKind.i64.wrap (y4 - 16)) 64) (PI.asInt .i64 y7[0 + (IntKind.i64.wrap (y4 - 16)).toNat * 1]? fun x16 => must (inB y4 64) (must ((V.int .i64 ((IntKind.i64.wrap (IntKind.i64.wrap
 (IntKind.i64.wrap (PI.bits IntKind.i64 (fun x1 x2 => x1 ^^^ x2) (PI.bits IntKind.i64 (fun x1 x2 => x1 ^^^ x2) x11 x14) (x2.fdiv 1024) + x15) + PI.bits IntKind.i64 (fun x1 x2 => x1 ^^^ x2) (PI.bits
 IntKind.i64 (fun x1 x2 => x1 ^^^ x2) x5 x8) (x1.fdiv 8)) + x16)).tmod 4294967296)).solid && true && (0 + y4.toNat * 1 + 1).ble y7.length && flatB C 280 [V.int .i64 ((IntKind.i64.wrap (IntKind.i64.wrap
 (IntKind.i64.wrap (PI.bits IntKind.i64 (fun x1 x2 => x1 ^^^ x2) (PI.bits IntKind.i64 (fun x1 x2 => x1 ^^^ x2) x11 x14) (x2.fdiv 1024) + x15) + PI.bits IntKind.i64 (fun x1 x2 => x1 ^^^ x2) (PI.bits
 IntKind.i64 (fun x1 x2 => x1 ^^^ x2) x5 x8) (x1.fdiv 8)) + x16)).tmod 4294967296)]) (O.L 0 187 4 [true, true, true, true, false, true, false, true, false, false, true, true, false, true] [q0] m [(3,
 V.ptr 0 0), (4, V.ptr 1 0), (5, V.sl y1 y2), (6, V.int .i64 y3), (7, V.ptr 2 0), (9, V.int .i64 (IntKind.i64.wrap (y4 + 1)))] [Ob.box 280 y5 false, Ob.box 282 y6 false, Ob.box 280 (splice y7 (0 +
 y4.toNat * 1) [V.int .i64 ((IntKind.i64.wrap (IntKind.i64.wrap (IntKind.i64.wrap (PI.bits IntKind.i64 (fun x1 x2 => x1 ^^^ x2) (PI.bits IntKind.i64 (fun x1 x2 => x1 ^^^ x2) x11 x14) (x2.fdiv 1024) +
 x15) + PI.bits IntKind.i64 (fun x1 x2 => x1 ^^^ x2) (PI.bits IntKind.i64 (fun x1 x2 => x1 ^^^ x2) x5 x8) (x1.fdiv 8)) + x16)).tmod 4294967296)]) false])))))) else PI.asInt .i64 y6[0]? fun x17 =>
 PI.asInt .i64 y6[1]? fun x18 => PI.asInt .i64 y6[2]? fun x19 => PI.asInt .i64 y6[3]? fun x20 => PI.asInt .i64 y6[4]? fun x21 => PI.asInt .i64 y6[5]? fun x22 => PI.asInt .i64 y6[6]? fun x23 => PI.asInt
 .i64 y6[7]? fun x24 => O.L 0 187 6 [true, true, true, true, false, true, false, true, false, false, true, true, true, true, false, true] [q0] k [(3, V.ptr 0 0), (4, V.ptr 1 0), (5, V.sl y1 y2), (6,
 V.int .i64 y3), (7, V.ptr 2 0), (14, V.ptr 3 0), (15, V.int .i64 0)] [Ob.box 280 y5 false, Ob.box 282 y6 false, Ob.box 280 y7 false, Ob.box 282 [V.int .i64 x17, V.int .i64 x18, V.int .i64 x19, V.int
 .i64 x20, V.int .i64 x21, V.int .i64 x22, V.int .i64 x23, V.int .i64 x24] false]
theorem e187l4 (k m q0 q1 : Nat) (y1 : Nat) (y2 : List V) (y3 : Int) (y4 : Int) (y5 : List V) (y6 : List V) (y7 : List V) : runL C k 187 4 [true, true, true, true, false, true, false, true, false,
 false, true, true, false, true] [q0] (m + 1) [(3, V.ptr 0 0), (4, V.ptr 1 0), (5, V.sl y1 y2), (6, V.int .i64 y3), (7, V.ptr 2 0), (9, V.int .i64 y4)] [Ob.box 280 y5 false, Ob.box 282 y6 false, Ob.box
 280 y7 false] = T187l4 (orc C k) k m q0 q1 y1 y2 y3 y4 y5 y6 y7 := by kernel_rfl
theorem E187l4 (y1 : Nat) (y2 : List V) (y3 : Int) (y4 : Int) (y5 : List V) (y6 : List V) (y7 : List V) {r : V} (h : T187l4 (orcE C) 0 0 0 0 y1 y2 y3 y4 y5 y6 y7 = some r) : loopE C 187 4 [true, true,
 true, true, false, true, false, true, false, false, true, true, false, true] [0] [(3, V.ptr 0 0), (4, V.ptr 1 0), (5, V.sl y1 y2), (6, V.int .i64 y3), (7, V.ptr 2 0), (9, V.int .i64 y4)] [Ob.box 280
 y5 false, Ob.box 282 y6 false, Ob.box 280 y7 false] = some r := ofL (j := 0) (F := fun s => T187l4 (orc C s.k) s.k s.m (s.fs.getD 0 0) 0 y1 y2 y3 y4 y5 y6 y7) (fs1 fun k m q0 => e187l4 k m q0 0 y1 y2
 y3 y4 y5 y6 y7) (by
  unfold T187l4
  repeat' first | with_reducible exact cC | with_reducible refine cN cR fun _ => ?_ | with_reducible refine cT fun _ => ?_ | with_reducible refine cI fun _ => ?_ | with_reducible refine cM ?_ | with_reducible refine cF ?_ ?_ | with_reducible refine cN cC fun _ => ?_ | with_reducible exact cR | exact cD1 gK (gF (i := 0) (by decide)) | exact cD1 gM (gF (i := 0) (by decide))) h

noncomputable def T187l5 (O : Orc) (k m q0 q1 : Nat) (y1 : Int) (y2 : Int) (y3 : List V) (y4 : Nat) (y5 : List V) : Option V := bif decide (y2 ≥ 0) then must (inB y1 8) (PI.asInt .i64 y3[0 + y1.toNat *
 1]? fun x1 => must (decide (0 ≤ IntKind.u64.wrap (IntKind.i64.wrap (8 * y2)))) (must (true && (y4 + 1).ble 140737488355328 && ((y4 + 1) * 1).ble 140737488355328) (O.L 0 187 12 [true, true, true, true,
 true, true, false, true, false, true, false, false, true] [q0] m [(4, V.ptr 0 0), (17, V.ref 1), (18, V.int .i64 y1), (19, V.int .i64 (IntKind.i64.wrap (y2 - 1)))] [Ob.box 282 y3 false, Ob.row 5 (y4 +
 1) (y5 ++ [V.int .u8 (IntKind.u8.wrap (x1.fdiv (2 ^ min (IntKind.u64.wrap (IntKind.i64.wrap (8 * y2))).toNat 64)))]) false]))) else O.L 0 187 10 [true, true, true, true, true, true, false, true] [] q0
 [(4, V.ptr 0 0), (17, V.ref 1), (18, V.int .i64 (IntKind.i64.wrap (y1 + 1)))] [Ob.box 282 y3 false, Ob.row 5 y4 y5 false]
theorem e187l5 (k m q0 q1 : Nat) (y1 : Int) (y2 : Int) (y3 : List V) (y4 : Nat) (y5 : List V) : runL C k 187 12 [true, true, true, true, true, true, false, true, false, true, false, false, true] [q0]
 (m + 1) [(4, V.ptr 0 0), (17, V.ref 1), (18, V.int .i64 y1), (19, V.int .i64 y2)] [Ob.box 282 y3 false, Ob.row 5 y4 y5 false] = T187l5 (orc C k) k m q0 q1 y1 y2 y3 y4 y5 := by kernel_rfl
theorem E187l5 (y1 : Int) (y2 : Int) (y3 : List V) (y4 : Nat) (y5 : List V) {r : V} (h : T187l5 (orcE C) 0 0 0 0 y1 y2 y3 y4 y5 = some r) : loopE C 187 12 [true, true, true, true, true, true, false,
 true, false, true, false, false, true] [0] [(4, V.ptr 0 0), (17, V.ref 1), (18, V.int .i64 y1), (19, V.int .i64 y2)] [Ob.box 282 y3 false, Ob.row 5 y4 y5 false] = some r := ofL (j := 0) (F := fun s =>
 T187l5 (orc C s.k) s.k s.m (s.fs.getD 0 0) 0 y1 y2 y3 y4 y5) (fs1 fun k m q0 => e187l5 k m q0 0 y1 y2 y3 y4 y5) (by
  unfold T187l5
  repeat' first | with_reducible exact cC | with_reducible refine cI fun _ => ?_ | with_reducible refine cM ?_ | with_reducible refine cF ?_ ?_ | exact cD0 (gF (i := 0) (by decide)) | exact cD1 gM (gF (i := 0) (by decide))) h

noncomputable def T299l1 (O : Orc) (k m q0 q1 : Nat) (y1 : Nat) (y2 : List V) (y3 : Int) (y4 : Int) (y5 : Nat) (y6 : List V) : Option V := bif decide (y4 < 19) then need (O.R 0 277 [V.sl y1 y2, V.int
 .i64 y3, V.int .i64 y4]) fun x1 => asTup (some x1) fun x2 => asOsl x2[0]? fun x3 x4 => need (O.R 0 276 [V.sl x3 x4, V.int .i64 3]) fun x5 => asTup (some x5) fun x6 => asOsl x6[0]? fun x7 x8 => must
 (decide (x8.length = x7 * 1)) (must (true && (y5 + x7).ble 140737488355328 && ((y5 + x7) * 1).ble 140737488355328) (O.L 0 299 0 [true, true, false, true] [] m [(0, V.sl y1 y2), (1, V.int .i64 y3), (5,
 V.ref 0), (6, V.int .i64 (IntKind.i64.wrap (y4 + 1)))] [Ob.row 5 (y5 + x7) (y6 ++ x8) false])) else must (false || y6.all flatV) (some (V.tup [V.osl y5 y6]))
theorem e299l1 (k m q0 q1 : Nat) (y1 : Nat) (y2 : List V) (y3 : Int) (y4 : Int) (y5 : Nat) (y6 : List V) : runL C k 299 0 [true, true, false, true] [] (m + 1) [(0, V.sl y1 y2), (1, V.int .i64 y3), (5,
 V.ref 0), (6, V.int .i64 y4)] [Ob.row 5 y5 y6 false] = T299l1 (orc C k) k m q0 q1 y1 y2 y3 y4 y5 y6 := by kernel_rfl
theorem E299l1 (y1 : Nat) (y2 : List V) (y3 : Int) (y4 : Int) (y5 : Nat) (y6 : List V) {r : V} (h : T299l1 (orcE C) 0 0 0 0 y1 y2 y3 y4 y5 y6 = some r) : loopE C 299 0 [true, true, false, true] [] [(0,
 V.sl y1 y2), (1, V.int .i64 y3), (5, V.ref 0), (6, V.int .i64 y4)] [Ob.row 5 y5 y6 false] = some r := ofL (j := 0) (F := fun s => T299l1 (orc C s.k) s.k s.m 0 0 y1 y2 y3 y4 y5 y6) (fs0 fun k m =>
 e299l1 k m 0 0 y1 y2 y3 y4 y5 y6) (by
  unfold T299l1
  repeat' first | with_reducible exact cC | with_reducible refine cN cR fun _ => ?_ | with_reducible refine cT fun _ => ?_ | with_reducible refine cM ?_ | with_reducible refine cF ?_ ?_ | with_reducible refine cO fun _ _ => ?_ | with_reducible refine cN cC fun _ => ?_ | with_reducible exact cR | exact cD0 gM) h

noncomputable def T269l1 (O : Orc) (k m q0 q1 : Nat) (y1 : Int) (y2 : Int) : Option V := bif decide (IntKind.i64.wrap (2 * y2) < y1) then O.L 0 269 0 [true, true, false] [] m [(0, V.int .i64 y1), (3,
 V.int .i64 (IntKind.i64.wrap (2 * y2)))] [] else some (V.tup [V.int .i64 y2])
theorem e269l1 (k m q0 q1 : Nat) (y1 : Int) (y2 : Int) : runL C k 269 0 [true, true, false] [] (m + 1) [(0, V.int .i64 y1), (3, V.int .i64 y2)] [] = T269l1 (orc C k) k m q0 q1 y1 y2 := by kernel_rfl
theorem E269l1 (y1 : Int) (y2 : Int) {r : V} (h : T269l1 (orcE C) 0 0 0 0 y1 y2 = some r) : loopE C 269 0 [true, true, false] [] [(0, V.int .i64 y1), (3, V.int .i64 y2)] [] = some r := ofL (j := 0) (F
 := fun s => T269l1 (orc C s.k) s.k s.m 0 0 y1 y2) (fs0 fun k m => e269l1 k m 0 0 y1 y2) (by
  unfold T269l1
  repeat' first | with_reducible exact cC | with_reducible refine cF ?_ ?_ | exact cD0 gM) h

noncomputable def T268 (O : Orc) (k m q0 q1 : Nat) (y1 : Nat) (y2 : List V) : Option V := need (O.R 0 244 [V.str { data := #[(108 : UInt8), (101 : UInt8), (97 : UInt8), (102 : UInt8)] }, V.sl y1 y2])
 fun x1 => asTup (some x1) fun x2 => asOsl x2[0]? fun x3 x4 => must (false || x4.all flatV) (some (V.tup [V.osl x3 x4]))
theorem e268 (k m q0 q1 : Nat) (y1 : Nat) (y2 : List V) : runV C (k + 1) 268 [V.sl y1 y2] = T268 (orc C k) k m q0 q1 y1 y2 := by kernel_rfl
theorem E268 (y1 : Nat) (y2 : List V) {r : V} (h : T268 (orcE C) 0 0 0 0 y1 y2 = some r) : runE C 268 [V.sl y1 y2] = some r := ofR (F := fun s => T268 (orc C s.k) s.k s.m 0 0 y1 y2) (fun k => e268 k k
 0 0 y1 y2) (by
  unfold T268
  repeat' first | with_reducible exact cC | with_reducible refine cN cR fun _ => ?_ | with_reducible refine cT fun _ => ?_ | with_reducible refine cM ?_ | with_reducible refine cO fun _ _ => ?_ | with_reducible refine cN cC fun _ => ?_ | with_reducible exact cR) h

noncomputable def T270 (O : Orc) (k m q0 q1 : Nat) (y1 : Nat) (y2 : List V) (y3 : Nat) (y4 : List V) : Option V := must (decide (y2.length = y1 * 1)) (must (true && (0 + y1).ble 140737488355328 && ((0
 + y1) * 1).ble 140737488355328) (must (decide (y4.length = y3 * 1)) (must (true && (0 + y1 + y3).ble 140737488355328 && ((0 + y1 + y3) * 1).ble 140737488355328) (need (O.R 0 244 [V.str { data :=
 #[(110 : UInt8), (111 : UInt8), (100 : UInt8), (101 : UInt8)] }, V.sl (0 + y1 + y3) (y2 ++ y4)]) fun x1 => asTup (some x1) fun x2 => asOsl x2[0]? fun x3 x4 => must (false || x4.all flatV) (some (V.tup
 [V.osl x3 x4]))))))
theorem e270 (k m q0 q1 : Nat) (y1 : Nat) (y2 : List V) (y3 : Nat) (y4 : List V) : runV C (k + 1) 270 [V.sl y1 y2, V.sl y3 y4] = T270 (orc C k) k m q0 q1 y1 y2 y3 y4 := by kernel_rfl
theorem E270 (y1 : Nat) (y2 : List V) (y3 : Nat) (y4 : List V) {r : V} (h : T270 (orcE C) 0 0 0 0 y1 y2 y3 y4 = some r) : runE C 270 [V.sl y1 y2, V.sl y3 y4] = some r := ofR (F := fun s => T270 (orc C
 s.k) s.k s.m 0 0 y1 y2 y3 y4) (fun k => e270 k k 0 0 y1 y2 y3 y4) (by
  unfold T270
  repeat' first | with_reducible exact cC | with_reducible refine cN cR fun _ => ?_ | with_reducible refine cT fun _ => ?_ | with_reducible refine cM ?_ | with_reducible refine cO fun _ _ => ?_ | with_reducible refine cN cC fun _ => ?_ | with_reducible exact cR) h

noncomputable def T276l2 (O : Orc) (k m q0 q1 : Nat) (y1 : Int) (y2 : Nat) (y3 : List V) : Option V := bif decide (y1 > 0) then need (O.R 0 244 [V.str { data := #[(115 : UInt8), (116 : UInt8), (101 :
 UInt8), (112 : UInt8)] }, V.sl y2 y3]) fun x1 => asTup (some x1) fun x2 => asOsl x2[0]? fun x3 x4 => O.L 0 276 0 [true, false] [] m [(0, V.ref 0), (1, V.int .i64 (IntKind.i64.wrap (y1 - 1)))] [Ob.row
 5 x3 x4 false] else must (decide (y3.length = y2 * 1)) (must (true && (0 + y2).ble 140737488355328 && ((0 + y2) * 1).ble 140737488355328) (must (false || y3.all flatV) (some (V.tup [V.osl (0 + y2)
 y3]))))
theorem e276l2 (k m q0 q1 : Nat) (y1 : Int) (y2 : Nat) (y3 : List V) : runL C k 276 0 [true, false] [] (m + 1) [(0, V.ref 0), (1, V.int .i64 y1)] [Ob.row 5 y2 y3 false] = T276l2 (orc C k) k m q0 q1 y1
 y2 y3 := by kernel_rfl
theorem E276l2 (y1 : Int) (y2 : Nat) (y3 : List V) {r : V} (h : T276l2 (orcE C) 0 0 0 0 y1 y2 y3 = some r) : loopE C 276 0 [true, false] [] [(0, V.ref 0), (1, V.int .i64 y1)] [Ob.row 5 y2 y3 false] =
 some r := ofL (j := 0) (F := fun s => T276l2 (orc C s.k) s.k s.m 0 0 y1 y2 y3) (fs0 fun k m => e276l2 k m 0 0 y1 y2 y3) (by
  unfold T276l2
  repeat' first | with_reducible exact cC | with_reducible refine cN cR fun _ => ?_ | with_reducible refine cT fun _ => ?_ | with_reducible refine cM ?_ | with_reducible refine cF ?_ ?_ | with_reducible refine cO fun _ _ => ?_ | with_reducible refine cN cC fun _ => ?_ | with_reducible exact cR | exact cD0 gM) h

noncomputable def T183l4 (O : Orc) (k m q0 q1 : Nat) (y1 : Nat) (y2 : List V) (y3 : List V) : Option V := bif decide ((↑y1 : Int) > 0) then PI.asInt .u32 y3[0]? fun x1 => PI.asInt .u32 y3[1]? fun x2 =>
 PI.asInt .u32 y3[2]? fun x3 => PI.asInt .u32 y3[3]? fun x4 => PI.asInt .u32 y3[4]? fun x5 => PI.asInt .u32 y3[5]? fun x6 => PI.asInt .u32 y3[6]? fun x7 => PI.asInt .u32 y3[7]? fun x8 => must (true &&
 decide (64 ≤ (↑y1 : Int))) (need (O.R 0 248 [V.agg [V.int .u32 x1, V.int .u32 x2, V.int .u32 x3, V.int .u32 x4, V.int .u32 x5, V.int .u32 x6, V.int .u32 x7, V.int .u32 x8], V.sl 64 (List.take 64
 (List.drop 0 y2))]) fun x9 => asTup (some x9) fun x10 => PI.asInt .u32 x10[0]? fun x11 => PI.asInt .u32 x10[1]? fun x12 => PI.asInt .u32 x10[2]? fun x13 => PI.asInt .u32 x10[3]? fun x14 => PI.asInt
 .u32 x10[4]? fun x15 => PI.asInt .u32 x10[5]? fun x16 => PI.asInt .u32 x10[6]? fun x17 => PI.asInt .u32 x10[7]? fun x18 => must ([V.int .u32 x11, V.int .u32 x12, V.int .u32 x13, V.int .u32 x14, V.int
 .u32 x15, V.int .u32 x16, V.int .u32 x17, V.int .u32 x18].length.beq 8 && true && (0 + [V.int .u32 x11, V.int .u32 x12, V.int .u32 x13, V.int .u32 x14, V.int .u32 x15, V.int .u32 x16, V.int .u32 x17,
 V.int .u32 x18].length).ble y3.length && flatB C 278 [V.int .u32 x11, V.int .u32 x12, V.int .u32 x13, V.int .u32 x14, V.int .u32 x15, V.int .u32 x16, V.int .u32 x17, V.int .u32 x18]) (must (true &&
 decide (64 ≤ (↑y1 : Int))) (O.L 0 183 6 [true, true, true, true, true, true, true, true, false] [] m [(3, V.sl (y1 - 64) (List.take ((y1 - 64) * 1) (List.drop 64 y2))), (8, V.ptr 0 0)] [Ob.box 278
 (splice y3 0 [V.int .u32 x11, V.int .u32 x12, V.int .u32 x13, V.int .u32 x14, V.int .u32 x15, V.int .u32 x16, V.int .u32 x17, V.int .u32 x18]) false]))) else PI.asInt .u32 y3[0]? fun x19 => PI.asInt
 .u32 y3[1]? fun x20 => PI.asInt .u32 y3[2]? fun x21 => PI.asInt .u32 y3[3]? fun x22 => PI.asInt .u32 y3[4]? fun x23 => PI.asInt .u32 y3[5]? fun x24 => PI.asInt .u32 y3[6]? fun x25 => PI.asInt .u32
 y3[7]? fun x26 => O.L 0 183 8 [true, true, true, true, true, true, true, true, true, true, false, true] [] k [(9, V.ref 0), (59, V.agg [V.int .u32 x19, V.int .u32 x20, V.int .u32 x21, V.int .u32 x22,
 V.int .u32 x23, V.int .u32 x24, V.int .u32 x25, V.int .u32 x26]), (60, V.int .i64 0)] [Ob.row 5 0 [] false]
theorem e183l4 (k m q0 q1 : Nat) (y1 : Nat) (y2 : List V) (y3 : List V) : runL C k 183 6 [true, true, true, true, true, true, true, true, false] [] (m + 1) [(3, V.ref 0), (8, V.ptr 1 0)] [Ob.row 5 y1
 y2 false, Ob.box 278 y3 false] = T183l4 (orc C k) k m q0 q1 y1 y2 y3 := by kernel_rfl
theorem E183l4 (y1 : Nat) (y2 : List V) (y3 : List V) {r : V} (h : T183l4 (orcE C) 0 0 0 0 y1 y2 y3 = some r) : loopE C 183 6 [true, true, true, true, true, true, true, true, false] [] [(3, V.ref 0),
 (8, V.ptr 1 0)] [Ob.row 5 y1 y2 false, Ob.box 278 y3 false] = some r := ofL (j := 0) (F := fun s => T183l4 (orc C s.k) s.k s.m 0 0 y1 y2 y3) (fs0 fun k m => e183l4 k m 0 0 y1 y2 y3) (by
  unfold T183l4
  repeat' first | with_reducible exact cC | with_reducible refine cN cR fun _ => ?_ | with_reducible refine cT fun _ => ?_ | with_reducible refine cI fun _ => ?_ | with_reducible refine cM ?_ | with_reducible refine cF ?_ ?_ | with_reducible refine cN cC fun _ => ?_ | with_reducible exact cR | exact cD0 gK | exact cD0 gM) h

noncomputable def T230l1 (O : Orc) (k m q0 q1 : Nat) (y1 : Nat) (y2 : List V) (y3 : Int) (y4 : Int) : Option V := bif decide (y4 < (↑y1 : Int)) then must (inB y4 y1) (PI.asInt .u8 y2[y4.toNat * 1]? fun
 x1 => O.L 0 230 0 [true, true, false, true] [] m [(0, V.sl y1 y2), (3, V.int .i64 (IntKind.i64.wrap (IntKind.i64.wrap (y3 * 256) + IntKind.i64.wrap x1))), (4, V.int .i64 (IntKind.i64.wrap (y4 + 1)))]
 []) else some (V.tup [V.int .i64 y3])
theorem e230l1 (k m q0 q1 : Nat) (y1 : Nat) (y2 : List V) (y3 : Int) (y4 : Int) : runL C k 230 0 [true, true, false, true] [] (m + 1) [(0, V.sl y1 y2), (3, V.int .i64 y3), (4, V.int .i64 y4)] [] =
 T230l1 (orc C k) k m q0 q1 y1 y2 y3 y4 := by kernel_rfl
theorem E230l1 (y1 : Nat) (y2 : List V) (y3 : Int) (y4 : Int) {r : V} (h : T230l1 (orcE C) 0 0 0 0 y1 y2 y3 y4 = some r) : loopE C 230 0 [true, true, false, true] [] [(0, V.sl y1 y2), (3, V.int .i64
 y3), (4, V.int .i64 y4)] [] = some r := ofL (j := 0) (F := fun s => T230l1 (orc C s.k) s.k s.m 0 0 y1 y2 y3 y4) (fs0 fun k m => e230l1 k m 0 0 y1 y2 y3 y4) (by
  unfold T230l1
  repeat' first | with_reducible exact cC | with_reducible refine cI fun _ => ?_ | with_reducible refine cM ?_ | with_reducible refine cF ?_ ?_ | exact cD0 gM) h

noncomputable def T252 (O : Orc) (k m q0 q1 : Nat) (y1 : Int) (y2 : Int) : Option V := must (decide (0 ≤ y2)) (must (decide (0 ≤ IntKind.u64.wrap (32 - y2))) (some (V.tup [V.int .i64 ((PI.bits
 IntKind.i64 (fun x1 x2 => x1 ||| x2) (y1.fdiv (2 ^ min y2.toNat 64)) (IntKind.i64.wrap (y1 * 2 ^ min (IntKind.u64.wrap (32 - y2)).toNat 64))).tmod 4294967296)])))
theorem e252 (k m q0 q1 : Nat) (y1 : Int) (y2 : Int) : runV C (k + 1) 252 [V.int .i64 y1, V.int .u64 y2] = T252 (orc C k) k m q0 q1 y1 y2 := by kernel_rfl
theorem E252 (y1 : Int) (y2 : Int) {r : V} (h : T252 (orcE C) 0 0 0 0 y1 y2 = some r) : runE C 252 [V.int .i64 y1, V.int .u64 y2] = some r := ofR (F := fun s => T252 (orc C s.k) s.k s.m 0 0 y1 y2) (fun
 k => e252 k k 0 0 y1 y2) (by
  unfold T252
  repeat' first | with_reducible exact cC | with_reducible refine cM ?_) h

noncomputable def T187l6 (O : Orc) (k m q0 q1 : Nat) (y1 : Nat) (y2 : List V) (y3 : Int) (y4 : Int) (y5 : List V) (y6 : List V) (y7 : List V) (y8 : List V) : Option V := bif decide (y4 < 64) then
 PI.asInt .i64 y8[0]? fun x1 => PI.asInt .i64 y8[1]? fun x2 => PI.asInt .i64 y8[2]? fun x3 => PI.asInt .i64 y8[3]? fun x4 => PI.asInt .i64 y8[4]? fun x5 => PI.asInt .i64 y8[5]? fun x6 => PI.asInt .i64
 y8[6]? fun x7 => PI.asInt .i64 y8[7]? fun x8 => must (inB y4 64) (PI.asInt .i64 y7[0 + y4.toNat * 1]? fun x9 => must (inB y4 64) (PI.asInt .i64 y5[0 + y4.toNat * 1]? fun x10 => need (O.R 0 253 [V.agg
 [V.int .i64 x1, V.int .i64 x2, V.int .i64 x3, V.int .i64 x4, V.int .i64 x5, V.int .i64 x6, V.int .i64 x7, V.int .i64 x8], V.int .i64 x9, V.int .i64 x10]) fun x11 => asTup (some x11) fun x12 =>
 PI.asInt .i64 x12[0]? fun x13 => PI.asInt .i64 x12[1]? fun x14 => PI.asInt .i64 x12[2]? fun x15 => PI.asInt .i64 x12[3]? fun x16 => PI.asInt .i64 x12[4]? fun x17 => PI.asInt .i64 x12[5]? fun x18 =>
 PI.asInt .i64 x12[6]? fun x19 => PI.asInt .i64 x12[7]? fun x20 => must ([V.int .i64 x13, V.int .i64 x14, V.int .i64 x15, V.int .i64 x16, V.int .i64 x17, V.int .i64 x18, V.int .i64 x19, V.int .i64
 x20].length.beq 8 && true && (0 + [V.int .i64 x13, V.int .i64 x14, V.int .i64 x15, V.int .i64 x16, V.int .i64 x17, V.int .i64 x18, V.int .i64 x19, V.int .i64 x20].length).ble y8.length && flatB C 282
 [V.int .i64 x13, V.int .i64 x14, V.int .i64 x15, V.int .i64 x16, V.int .i64 x17, V.int .i64 x18, V.int .i64 x19, V.int .i64 x20]) (O.L 0 187 6 [true, true, true, true, false, true, false, true, false,
 false, true, true, true, true, false, true] [q0] m [(3, V.ptr 0 0), (4, V.ptr 1 0), (5, V.sl y1 y2), (6, V.int .i64 y3), (7, V.ptr 2 0), (14, V.ptr 3 0), (15, V.int .i64 (IntKind.i64.wrap (y4 + 1)))]
 [Ob.box 280 y5 false, Ob.box 282 y6 false, Ob.box 280 y7 false, Ob.box 282 (splice y8 0 [V.int .i64 x13, V.int .i64 x14, V.int .i64 x15, V.int .i64 x16, V.int .i64 x17, V.int .i64 x18, V.int .i64 x19,
 V.int .i64 x20]) false]))) else O.L 0 187 8 [true, true, true, true, false, true, false, true, false, false, true, true, true, true, true, true] [q0] k [(3, V.ptr 0 0), (4, V.ptr 1 0), (5, V.sl y1
 y2), (6, V.int .i64 y3), (14, V.ptr 2 0), (16, V.int .i64 0)] [Ob.box 280 y5 false, Ob.box 282 y6 false, Ob.box 282 y8 false]
theorem e187l6 (k m q0 q1 : Nat) (y1 : Nat) (y2 : List V) (y3 : Int) (y4 : Int) (y5 : List V) (y6 : List V) (y7 : List V) (y8 : List V) : runL C k 187 6 [true, true, true, true, false, true, false,
 true, false, false, true, true, true, true, false, true] [q0] (m + 1) [(3, V.ptr 0 0), (4, V.ptr 1 0), (5, V.sl y1 y2), (6, V.int .i64 y3), (7, V.ptr 2 0), (14, V.ptr 3 0), (15, V.int .i64 y4)]
 [Ob.box 280 y5 false, Ob.box 282 y6 false, Ob.box 280 y7 false, Ob.box 282 y8 false] = T187l6 (orc C k) k m q0 q1 y1 y2 y3 y4 y5 y6 y7 y8 := by kernel_rfl
theorem E187l6 (y1 : Nat) (y2 : List V) (y3 : Int) (y4 : Int) (y5 : List V) (y6 : List V) (y7 : List V) (y8 : List V) {r : V} (h : T187l6 (orcE C) 0 0 0 0 y1 y2 y3 y4 y5 y6 y7 y8 = some r) : loopE C
 187 6 [true, true, true, true, false, true, false, true, false, false, true, true, true, true, false, true] [0] [(3, V.ptr 0 0), (4, V.ptr 1 0), (5, V.sl y1 y2), (6, V.int .i64 y3), (7, V.ptr 2 0),
 (14, V.ptr 3 0), (15, V.int .i64 y4)] [Ob.box 280 y5 false, Ob.box 282 y6 false, Ob.box 280 y7 false, Ob.box 282 y8 false] = some r := ofL (j := 0) (F := fun s => T187l6 (orc C s.k) s.k s.m (s.fs.getD
 0 0) 0 y1 y2 y3 y4 y5 y6 y7 y8) (fs1 fun k m q0 => e187l6 k m q0 0 y1 y2 y3 y4 y5 y6 y7 y8) (by
  unfold T187l6
  repeat' first | with_reducible exact cC | with_reducible refine cN cR fun _ => ?_ | with_reducible refine cT fun _ => ?_ | with_reducible refine cI fun _ => ?_ | with_reducible refine cM ?_ | with_reducible refine cF ?_ ?_ | with_reducible refine cN cC fun _ => ?_ | with_reducible exact cR | exact cD1 gK (gF (i := 0) (by decide)) | exact cD1 gM (gF (i := 0) (by decide))) h

noncomputable def T248 (O : Orc) (k m q0 q1 : Nat) (y1 : Int) (y2 : Int) (y3 : Int) (y4 : Int) (y5 : Int) (y6 : Int) (y7 : Int) (y8 : Int) (y9 : Nat) (y10 : List V) : Option V := O.L 0 248 0 [true,
 true, false, true] [] k [(1, V.sl y9 y10), (2, V.ptr 0 0), (4, V.ptr 1 0), (5, V.ptr 2 0), (16, V.int .i64 0)] [Ob.box 278 [V.int .u32 y1, V.int .u32 y2, V.int .u32 y3, V.int .u32 y4, V.int .u32 y5,
 V.int .u32 y6, V.int .u32 y7, V.int .u32 y8] false, Ob.box 278 [V.int .u32 0, V.int .u32 0, V.int .u32 0, V.int .u32 0, V.int .u32 0, V.int .u32 0, V.int .u32 0, V.int .u32 0] false, Ob.box 306 [V.int
 .u32 0, V.int .u32 0, V.int .u32 0, V.int .u32 0, V.int .u32 0, V.int .u32 0, V.int .u32 0, V.int .u32 0, V.int .u32 0, V.int .u32 0, V.int .u32 0, V.int .u32 0, V.int .u32 0, V.int .u32 0, V.int .u32
 0, V.int .u32 0, V.int .u32 0, V.int .u32 0, V.int .u32 0, V.int .u32 0, V.int .u32 0, V.int .u32 0, V.int .u32 0, V.int .u32 0, V.int .u32 0, V.int .u32 0, V.int .u32 0, V.int .u32 0, V.int .u32 0,
 V.int .u32 0, V.int .u32 0, V.int .u32 0, V.int .u32 0, V.int .u32 0, V.int .u32 0, V.int .u32 0, V.int .u32 0, V.int .u32 0, V.int .u32 0, V.int .u32 0, V.int .u32 0, V.int .u32 0, V.int .u32 0,
 V.int .u32 0, V.int .u32 0, V.int .u32 0, V.int .u32 0, V.int .u32 0, V.int .u32 0, V.int .u32 0, V.int .u32 0, V.int .u32 0, V.int .u32 0, V.int .u32 0, V.int .u32 0, V.int .u32 0, V.int .u32 0,
 V.int .u32 0, V.int .u32 0, V.int .u32 0, V.int .u32 0, V.int .u32 0, V.int .u32 0, V.int .u32 0] false]
theorem e248 (k m q0 q1 : Nat) (y1 : Int) (y2 : Int) (y3 : Int) (y4 : Int) (y5 : Int) (y6 : Int) (y7 : Int) (y8 : Int) (y9 : Nat) (y10 : List V) : runV C (k + 1) 248 [V.agg [V.int .u32 y1, V.int .u32
 y2, V.int .u32 y3, V.int .u32 y4, V.int .u32 y5, V.int .u32 y6, V.int .u32 y7, V.int .u32 y8], V.sl y9 y10] = T248 (orc C k) k m q0 q1 y1 y2 y3 y4 y5 y6 y7 y8 y9 y10 := by kernel_rfl
theorem E248 (y1 : Int) (y2 : Int) (y3 : Int) (y4 : Int) (y5 : Int) (y6 : Int) (y7 : Int) (y8 : Int) (y9 : Nat) (y10 : List V) {r : V} (h : T248 (orcE C) 0 0 0 0 y1 y2 y3 y4 y5 y6 y7 y8 y9 y10 = some
 r) : runE C 248 [V.agg [V.int .u32 y1, V.int .u32 y2, V.int .u32 y3, V.int .u32 y4, V.int .u32 y5, V.int .u32 y6, V.int .u32 y7, V.int .u32 y8], V.sl y9 y10] = some r := ofR (F := fun s => T248 (orc C
 s.k) s.k s.m 0 0 y1 y2 y3 y4 y5 y6 y7 y8 y9 y10) (fun k => e248 k k 0 0 y1 y2 y3 y4 y5 y6 y7 y8 y9 y10) (by
  unfold T248
  repeat' first | with_reducible exact cC | exact cD0 gK) h

noncomputable def T183l5 (O : Orc) (k m q0 q1 : Nat) (y1 : Nat) (y2 : List V) (y3 : List V) : Option V := bif decide ((↑y1 : Int) > 0) then PI.asInt .u32 y3[0]? fun x1 => PI.asInt .u32 y3[1]? fun x2 =>
 PI.asInt .u32 y3[2]? fun x3 => PI.asInt .u32 y3[3]? fun x4 => PI.asInt .u32 y3[4]? fun x5 => PI.asInt .u32 y3[5]? fun x6 => PI.asInt .u32 y3[6]? fun x7 => PI.asInt .u32 y3[7]? fun x8 => must (true &&
 decide (64 ≤ (↑y1 : Int))) (need (O.R 0 248 [V.agg [V.int .u32 x1, V.int .u32 x2, V.int .u32 x3, V.int .u32 x4, V.int .u32 x5, V.int .u32 x6, V.int .u32 x7, V.int .u32 x8], V.sl 64 (List.take 64
 (List.drop 0 y2))]) fun x9 => asTup (some x9) fun x10 => PI.asInt .u32 x10[0]? fun x11 => PI.asInt .u32 x10[1]? fun x12 => PI.asInt .u32 x10[2]? fun x13 => PI.asInt .u32 x10[3]? fun x14 => PI.asInt
 .u32 x10[4]? fun x15 => PI.asInt .u32 x10[5]? fun x16 => PI.asInt .u32 x10[6]? fun x17 => PI.asInt .u32 x10[7]? fun x18 => must ([V.int .u32 x11, V.int .u32 x12, V.int .u32 x13, V.int .u32 x14, V.int
 .u32 x15, V.int .u32 x16, V.int .u32 x17, V.int .u32 x18].length.beq 8 && true && (0 + [V.int .u32 x11, V.int .u32 x12, V.int .u32 x13, V.int .u32 x14, V.int .u32 x15, V.int .u32 x16, V.int .u32 x17,
 V.int .u32 x18].length).ble y3.length && flatB C 278 [V.int .u32 x11, V.int .u32 x12, V.int .u32 x13, V.int .u32 x14, V.int .u32 x15, V.int .u32 x16, V.int .u32 x17, V.int .u32 x18]) (must (true &&
 decide (64 ≤ (↑y1 : Int))) (O.L 0 183 6 [true, true, true, true, true, true, true, true, false] [] m [(3, V.sl (y1 - 64) (List.take ((y1 - 64) * 1) (List.drop 64 y2))), (8, V.ptr 0 0)] [Ob.box 278
 (splice y3 0 [V.int .u32 x11, V.int .u32 x12, V.int .u32 x13, V.int .u32 x14, V.int .u32 x15, V.int .u32 x16, V.int .u32 x17, V.int .u32 x18]) false]))) else PI.asInt .u32 y3[0]? fun x19 => PI.asInt
 .u32 y3[1]? fun x20 => PI.asInt .u32 y3[2]? fun x21 => PI.asInt .u32 y3[3]? fun x22 => PI.asInt .u32 y3[4]? fun x23 => PI.asInt .u32 y3[5]? fun x24 => PI.asInt .u32 y3[6]? fun x25 => PI.asInt .u32
 y3[7]? fun x26 => O.L 0 183 8 [true, true, true, true, true, true, true, true, true, true, false, true] [] k [(9, V.ref 0), (59, V.agg [V.int .u32 x19, V.int .u32 x20, V.int .u32 x21, V.int .u32 x22,
 V.int .u32 x23, V.int .u32 x24, V.int .u32 x25, V.int .u32 x26]), (60, V.int .i64 0)] [Ob.row 5 0 [] false]
theorem e183l5 (k m q0 q1 : Nat) (y1 : Nat) (y2 : List V) (y3 : List V) : runL C k 183 6 [true, true, true, true, true, true, true, true, false] [] (m + 1) [(3, V.sl y1 y2), (8, V.ptr 0 0)] [Ob.box 278
 y3 false] = T183l5 (orc C k) k m q0 q1 y1 y2 y3 := by kernel_rfl
theorem E183l5 (y1 : Nat) (y2 : List V) (y3 : List V) {r : V} (h : T183l5 (orcE C) 0 0 0 0 y1 y2 y3 = some r) : loopE C 183 6 [true, true, true, true, true, true, true, true, false] [] [(3, V.sl y1
 y2), (8, V.ptr 0 0)] [Ob.box 278 y3 false] = some r := ofL (j := 0) (F := fun s => T183l5 (orc C s.k) s.k s.m 0 0 y1 y2 y3) (fs0 fun k m => e183l5 k m 0 0 y1 y2 y3) (by
  unfold T183l5
  repeat' first | with_reducible exact cC | with_reducible refine cN cR fun _ => ?_ | with_reducible refine cT fun _ => ?_ | with_reducible refine cI fun _ => ?_ | with_reducible refine cM ?_ | with_reducible refine cF ?_ ?_ | with_reducible refine cN cC fun _ => ?_ | with_reducible exact cR | exact cD0 gK | exact cD0 gM) h

noncomputable def T183l6 (O : Orc) (k m q0 q1 : Nat) (y1 : Int) (y2 : Int) (y3 : Int) (y4 : Int) (y5 : Int) (y6 : Int) (y7 : Int) (y8 : Int) (y9 : Int) (y10 : Nat) (y11 : List V) : Option V := bif
 decide (y9 < 8) then must (inB y9 8) (PI.asInt .u32 [V.int .u32 y1, V.int .u32 y2, V.int .u32 y3, V.int .u32 y4, V.int .u32 y5, V.int .u32 y6, V.int .u32 y7, V.int .u32 y8][y9.toNat * 1]? fun x1 =>
 must (true && (y10 + 4).ble 140737488355328 && ((y10 + 4) * 1).ble 140737488355328) (O.L 0 183 8 [true, true, true, true, true, true, true, true, true, true, false, true] [] m [(9, V.ref 0), (59,
 V.agg [V.int .u32 y1, V.int .u32 y2, V.int .u32 y3, V.int .u32 y4, V.int .u32 y5, V.int .u32 y6, V.int .u32 y7, V.int .u32 y8]), (60, V.int .i64 (IntKind.i64.wrap (y9 + 1)))] [Ob.row 5 (y10 + 4) (y11
 ++ [V.int .u8 (IntKind.u8.wrap (x1.fdiv 16777216)), V.int .u8 (IntKind.u8.wrap (x1.fdiv 65536)), V.int .u8 (IntKind.u8.wrap (x1.fdiv 256)), V.int .u8 (IntKind.u8.wrap x1)]) false])) else must (false
 || y11.all flatV) (some (V.tup [V.osl y10 y11]))
theorem e183l6 (k m q0 q1 : Nat) (y1 : Int) (y2 : Int) (y3 : Int) (y4 : Int) (y5 : Int) (y6 : Int) (y7 : Int) (y8 : Int) (y9 : Int) (y10 : Nat) (y11 : List V) : runL C k 183 8 [true, true, true, true,
 true, true, true, true, true, true, false, true] [] (m + 1) [(9, V.ref 0), (59, V.agg [V.int .u32 y1, V.int .u32 y2, V.int .u32 y3, V.int .u32 y4, V.int .u32 y5, V.int .u32 y6, V.int .u32 y7, V.int
 .u32 y8]), (60, V.int .i64 y9)] [Ob.row 5 y10 y11 false] = T183l6 (orc C k) k m q0 q1 y1 y2 y3 y4 y5 y6 y7 y8 y9 y10 y11 := by kernel_rfl
theorem E183l6 (y1 : Int) (y2 : Int) (y3 : Int) (y4 : Int) (y5 : Int) (y6 : Int) (y7 : Int) (y8 : Int) (y9 : Int) (y10 : Nat) (y11 : List V) {r : V} (h : T183l6 (orcE C) 0 0 0 0 y1 y2 y3 y4 y5 y6 y7 y8
 y9 y10 y11 = some r) : loopE C 183 8 [true, true, true, true, true, true, true, true, true, true, false, true] [] [(9, V.ref 0), (59, V.agg [V.int .u32 y1, V.int .u32 y2, V.int .u32 y3, V.int .u32 y4,
 V.int .u32 y5, V.int .u32 y6, V.int .u32 y7, V.int .u32 y8]), (60, V.int .i64 y9)] [Ob.row 5 y10 y11 false] = some r := ofL (j := 0) (F := fun s => T183l6 (orc C s.k) s.k s.m 0 0 y1 y2 y3 y4 y5 y6 y7
 y8 y9 y10 y11) (fs0 fun k m => e183l6 k m 0 0 y1 y2 y3 y4 y5 y6 y7 y8 y9 y10 y11) (by
  unfold T183l6
  repeat' first | with_reducible exact cC | with_reducible refine cI fun _ => ?_ | with_reducible refine cM ?_ | with_reducible refine cF ?_ ?_ | exact cD0 gM) h

noncomputable def T253 (O : Orc) (k m q0 q1 : Nat) (y1 : Int) (y2 : Int) (y3 : Int) (y4 : Int) (y5 : Int) (y6 : Int) (y7 : Int) (y8 : Int) (y9 : Int) (y10 : Int) : Option V := need (O.R 0 252 [V.int
 .i64 y5, V.int .u64 6]) fun x1 => asTup (some x1) fun x2 => PI.asInt .i64 x2[0]? fun x3 => need (O.R 0 252 [V.int .i64 y5, V.int .u64 11]) fun x4 => asTup (some x4) fun x5 => PI.asInt .i64 x5[0]? fun
 x6 => need (O.R 0 252 [V.int .i64 y5, V.int .u64 25]) fun x7 => asTup (some x7) fun x8 => PI.asInt .i64 x8[0]? fun x9 => need (O.R 0 292 [V.int .i64 y5]) fun x10 => asTup (some x10) fun x11 =>
 PI.asInt .i64 x11[0]? fun x12 => need (O.R 0 252 [V.int .i64 y1, V.int .u64 2]) fun x13 => asTup (some x13) fun x14 => PI.asInt .i64 x14[0]? fun x15 => need (O.R 0 252 [V.int .i64 y1, V.int .u64 13])
 fun x16 => asTup (some x16) fun x17 => PI.asInt .i64 x17[0]? fun x18 => need (O.R 0 252 [V.int .i64 y1, V.int .u64 22]) fun x19 => asTup (some x19) fun x20 => PI.asInt .i64 x20[0]? fun x21 => some
 (V.tup [V.int .i64 ((IntKind.i64.wrap ((IntKind.i64.wrap (IntKind.i64.wrap (IntKind.i64.wrap (IntKind.i64.wrap (y8 + PI.bits IntKind.i64 (fun x1 x2 => x1 ^^^ x2) (PI.bits IntKind.i64 (fun x1 x2 => x1
 ^^^ x2) x3 x6) x9) + PI.bits IntKind.i64 (fun x1 x2 => x1 ^^^ x2) (PI.bits IntKind.i64 (fun x1 x2 => x1 &&& x2) y5 y6) (PI.bits IntKind.i64 (fun x1 x2 => x1 &&& x2) x12 y7)) + y10) + y9)).tmod
 4294967296 + (IntKind.i64.wrap (PI.bits IntKind.i64 (fun x1 x2 => x1 ^^^ x2) (PI.bits IntKind.i64 (fun x1 x2 => x1 ^^^ x2) x15 x18) x21 + PI.bits IntKind.i64 (fun x1 x2 => x1 ^^^ x2) (PI.bits
 IntKind.i64 (fun x1 x2 => x1 ^^^ x2) (PI.bits IntKind.i64 (fun x1 x2 => x1 &&& x2) y1 y2) (PI.bits IntKind.i64 (fun x1 x2 => x1 &&& x2) y1 y3)) (PI.bits IntKind.i64 (fun x1 x2 => x1 &&& x2) y2
 y3))).tmod 4294967296)).tmod 4294967296), V.int .i64 y1, V.int .i64 y2, V.int .i64 y3, V.int .i64 ((IntKind.i64.wrap (y4 + (IntKind.i64.wrap (IntKind.i64.wrap (IntKind.i64.wrap (IntKind.i64.wrap (y8 +
 PI.bits IntKind.i64 (fun x1 x2 => x1 ^^^ x2) (PI.bits IntKind.i64 (fun x1 x2 => x1 ^^^ x2) x3 x6) x9) + PI.bits IntKind.i64 (fun x1 x2 => x1 ^^^ x2) (PI.bits IntKind.i64 (fun x1 x2 => x1 &&& x2) y5
 y6) (PI.bits IntKind.i64 (fun x1 x2 => x1 &&& x2) x12 y7)) + y10) + y9)).tmod 4294967296)).tmod 4294967296), V.int .i64 y5, V.int .i64 y6, V.int .i64 y7])
theorem e253 (k m q0 q1 : Nat) (y1 : Int) (y2 : Int) (y3 : Int) (y4 : Int) (y5 : Int) (y6 : Int) (y7 : Int) (y8 : Int) (y9 : Int) (y10 : Int) : runV C (k + 1) 253 [V.agg [V.int .i64 y1, V.int .i64 y2,
 V.int .i64 y3, V.int .i64 y4, V.int .i64 y5, V.int .i64 y6, V.int .i64 y7, V.int .i64 y8], V.int .i64 y9, V.int .i64 y10] = T253 (orc C k) k m q0 q1 y1 y2 y3 y4 y5 y6 y7 y8 y9 y10 := by kernel_rfl
theorem E253 (y1 : Int) (y2 : Int) (y3 : Int) (y4 : Int) (y5 : Int) (y6 : Int) (y7 : Int) (y8 : Int) (y9 : Int) (y10 : Int) {r : V} (h : T253 (orcE C) 0 0 0 0 y1 y2 y3 y4 y5 y6 y7 y8 y9 y10 = some r) :
 runE C 253 [V.agg [V.int .i64 y1, V.int .i64 y2, V.int .i64 y3, V.int .i64 y4, V.int .i64 y5, V.int .i64 y6, V.int .i64 y7, V.int .i64 y8], V.int .i64 y9, V.int .i64 y10] = some r := ofR (F := fun s
 => T253 (orc C s.k) s.k s.m 0 0 y1 y2 y3 y4 y5 y6 y7 y8 y9 y10) (fun k => e253 k k 0 0 y1 y2 y3 y4 y5 y6 y7 y8 y9 y10) (by
  unfold T253
  repeat' first | with_reducible exact cC | with_reducible refine cN cR fun _ => ?_ | with_reducible refine cT fun _ => ?_ | with_reducible refine cI fun _ => ?_ | with_reducible refine cN cC fun _ => ?_ | with_reducible exact cR) h

noncomputable def T187l7 (O : Orc) (k m q0 q1 : Nat) (y1 : Nat) (y2 : List V) (y3 : Int) (y4 : Int) (y5 : List V) (y6 : List V) (y7 : List V) : Option V := bif decide (y4 < 8) then must (inB y4 8)
 (PI.asInt .i64 y6[0 + y4.toNat * 1]? fun x1 => must (inB y4 8) (PI.asInt .i64 y7[0 + y4.toNat * 1]? fun x2 => must (inB y4 8) (must ((V.int .i64 ((IntKind.i64.wrap (x1 + x2)).tmod 4294967296)).solid
 && true && (0 + y4.toNat * 1 + 1).ble y6.length && flatB C 282 [V.int .i64 ((IntKind.i64.wrap (x1 + x2)).tmod 4294967296)]) (O.L 0 187 8 [true, true, true, true, false, true, false, true, false,
 false, true, true, true, true, true, true] [q0] m [(3, V.ptr 0 0), (4, V.ptr 1 0), (5, V.sl y1 y2), (6, V.int .i64 y3), (14, V.ptr 2 0), (16, V.int .i64 (IntKind.i64.wrap (y4 + 1)))] [Ob.box 280 y5
 false, Ob.box 282 (splice y6 (0 + y4.toNat * 1) [V.int .i64 ((IntKind.i64.wrap (x1 + x2)).tmod 4294967296)]) false, Ob.box 282 y7 false])))) else O.L 0 187 0 [true, true, true, true, false, true] []
 q0 [(3, V.ptr 0 0), (4, V.ptr 1 0), (5, V.sl y1 y2), (6, V.int .i64 (IntKind.i64.wrap (y3 + 64)))] [Ob.box 280 y5 false, Ob.box 282 y6 false]
theorem e187l7 (k m q0 q1 : Nat) (y1 : Nat) (y2 : List V) (y3 : Int) (y4 : Int) (y5 : List V) (y6 : List V) (y7 : List V) : runL C k 187 8 [true, true, true, true, false, true, false, true, false,
 false, true, true, true, true, true, true] [q0] (m + 1) [(3, V.ptr 0 0), (4, V.ptr 1 0), (5, V.sl y1 y2), (6, V.int .i64 y3), (14, V.ptr 2 0), (16, V.int .i64 y4)] [Ob.box 280 y5 false, Ob.box 282 y6
 false, Ob.box 282 y7 false] = T187l7 (orc C k) k m q0 q1 y1 y2 y3 y4 y5 y6 y7 := by kernel_rfl
theorem E187l7 (y1 : Nat) (y2 : List V) (y3 : Int) (y4 : Int) (y5 : List V) (y6 : List V) (y7 : List V) {r : V} (h : T187l7 (orcE C) 0 0 0 0 y1 y2 y3 y4 y5 y6 y7 = some r) : loopE C 187 8 [true, true,
 true, true, false, true, false, true, false, false, true, true, true, true, true, true] [0] [(3, V.ptr 0 0), (4, V.ptr 1 0), (5, V.sl y1 y2), (6, V.int .i64 y3), (14, V.ptr 2 0), (16, V.int .i64 y4)]
 [Ob.box 280 y5 false, Ob.box 282 y6 false, Ob.box 282 y7 false] = some r := ofL (j := 0) (F := fun s => T187l7 (orc C s.k) s.k s.m (s.fs.getD 0 0) 0 y1 y2 y3 y4 y5 y6 y7) (fs1 fun k m q0 => e187l7 k m
 q0 0 y1 y2 y3 y4 y5 y6 y7) (by
  unfold T187l7
  repeat' first | with_reducible exact cC | with_reducible refine cI fun _ => ?_ | with_reducible refine cM ?_ | with_reducible refine cF ?_ ?_ | exact cD0 (gF (i := 0) (by decide)) | exact cD1 gM (gF (i := 0) (by decide))) h

noncomputable def T248l1 (O : Orc) (k m q0 q1 : Nat) (y1 : Nat) (y2 : List V) (y3 : Int) (y4 : List V) (y5 : List V) (y6 : List V) : Option V := bif decide (y3 < 64) then bif decide (y3 < 16) then must
 (inB (IntKind.i64.wrap (4 * y3)) y1) (PI.asInt .u8 y2[(IntKind.i64.wrap (4 * y3)).toNat * 1]? fun x1 => must (inB (IntKind.i64.wrap (IntKind.i64.wrap (4 * y3) + 1)) y1) (PI.asInt .u8
 y2[(IntKind.i64.wrap (IntKind.i64.wrap (4 * y3) + 1)).toNat * 1]? fun x2 => must (inB (IntKind.i64.wrap (IntKind.i64.wrap (4 * y3) + 2)) y1) (PI.asInt .u8 y2[(IntKind.i64.wrap (IntKind.i64.wrap (4 *
 y3) + 2)).toNat * 1]? fun x3 => must (inB (IntKind.i64.wrap (IntKind.i64.wrap (4 * y3) + 3)) y1) (PI.asInt .u8 y2[(IntKind.i64.wrap (IntKind.i64.wrap (4 * y3) + 3)).toNat * 1]? fun x4 => must (inB y3
 64) (must ((V.int .u32 (PI.bits IntKind.u32 (fun x1 x2 => x1 ||| x2) (PI.bits IntKind.u32 (fun x1 x2 => x1 ||| x2) (PI.bits IntKind.u32 (fun x1 x2 => x1 ||| x2) (IntKind.u32.wrap (IntKind.u32.wrap x1
 * 16777216)) (IntKind.u32.wrap (IntKind.u32.wrap x2 * 65536))) (IntKind.u32.wrap (IntKind.u32.wrap x3 * 256))) (IntKind.u32.wrap x4))).solid && true && (0 + y3.toNat * 1 + 1).ble y6.length && flatB C
 306 [V.int .u32 (PI.bits IntKind.u32 (fun x1 x2 => x1 ||| x2) (PI.bits IntKind.u32 (fun x1 x2 => x1 ||| x2) (PI.bits IntKind.u32 (fun x1 x2 => x1 ||| x2) (IntKind.u32.wrap (IntKind.u32.wrap x1 *
 16777216)) (IntKind.u32.wrap (IntKind.u32.wrap x2 * 65536))) (IntKind.u32.wrap (IntKind.u32.wrap x3 * 256))) (IntKind.u32.wrap x4))]) (O.L 0 248 0 [true, true, false, true] [] m [(1, V.sl y1 y2), (2,
 V.ptr 0 0), (4, V.ptr 1 0), (5, V.ptr 2 0), (16, V.int .i64 (IntKind.i64.wrap (y3 + 1)))] [Ob.box 278 y4 false, Ob.box 278 y5 false, Ob.box 306 (splice y6 (0 + y3.toNat * 1) [V.int .u32 (PI.bits
 IntKind.u32 (fun x1 x2 => x1 ||| x2) (PI.bits IntKind.u32 (fun x1 x2 => x1 ||| x2) (PI.bits IntKind.u32 (fun x1 x2 => x1 ||| x2) (IntKind.u32.wrap (IntKind.u32.wrap x1 * 16777216)) (IntKind.u32.wrap
 (IntKind.u32.wrap x2 * 65536))) (IntKind.u32.wrap (IntKind.u32.wrap x3 * 256))) (IntKind.u32.wrap x4))]) false])))))) else must (inB (IntKind.i64.wrap (y3 - 15)) 64) (PI.asInt .u32 y6[0 +
 (IntKind.i64.wrap (y3 - 15)).toNat * 1]? fun x5 => must (inB (IntKind.i64.wrap (y3 - 2)) 64) (PI.asInt .u32 y6[0 + (IntKind.i64.wrap (y3 - 2)).toNat * 1]? fun x6 => need (O.R 0 289 [V.int .u32 x5,
 V.int .i64 (-7)]) fun x7 => asTup (some x7) fun x8 => PI.asInt .u32 x8[0]? fun x9 => need (O.R 0 289 [V.int .u32 x5, V.int .i64 (-18)]) fun x10 => asTup (some x10) fun x11 => PI.asInt .u32 x11[0]? fun
 x12 => need (O.R 0 289 [V.int .u32 x6, V.int .i64 (-17)]) fun x13 => asTup (some x13) fun x14 => PI.asInt .u32 x14[0]? fun x15 => need (O.R 0 289 [V.int .u32 x6, V.int .i64 (-19)]) fun x16 => asTup
 (some x16) fun x17 => PI.asInt .u32 x17[0]? fun x18 => must (inB (IntKind.i64.wrap (y3 - 7)) 64) (PI.asInt .u32 y6[0 + (IntKind.i64.wrap (y3 - 7)).toNat * 1]? fun x19 => must (inB (IntKind.i64.wrap
 (y3 - 16)) 64) (PI.asInt .u32 y6[0 + (IntKind.i64.wrap (y3 - 16)).toNat * 1]? fun x20 => must (inB y3 64) (must ((V.int .u32 (IntKind.u32.wrap (IntKind.u32.wrap (IntKind.u32.wrap (PI.bits IntKind.u32
 (fun x1 x2 => x1 ^^^ x2) (PI.bits IntKind.u32 (fun x1 x2 => x1 ^^^ x2) x15 x18) (x6.fdiv 1024) + x19) + PI.bits IntKind.u32 (fun x1 x2 => x1 ^^^ x2) (PI.bits IntKind.u32 (fun x1 x2 => x1 ^^^ x2) x9
 x12) (x5.fdiv 8)) + x20))).solid && true && (0 + y3.toNat * 1 + 1).ble y6.length && flatB C 306 [V.int .u32 (IntKind.u32.wrap (IntKind.u32.wrap (IntKind.u32.wrap (PI.bits IntKind.u32 (fun x1 x2 => x1
 ^^^ x2) (PI.bits IntKind.u32 (fun x1 x2 => x1 ^^^ x2) x15 x18) (x6.fdiv 1024) + x19) + PI.bits IntKind.u32 (fun x1 x2 => x1 ^^^ x2) (PI.bits IntKind.u32 (fun x1 x2 => x1 ^^^ x2) x9 x12) (x5.fdiv 8)) +
 x20))]) (O.L 0 248 0 [true, true, false, true] [] m [(1, V.sl y1 y2), (2, V.ptr 0 0), (4, V.ptr 1 0), (5, V.ptr 2 0), (16, V.int .i64 (IntKind.i64.wrap (y3 + 1)))] [Ob.box 278 y4 false, Ob.box 278 y5
 false, Ob.box 306 (splice y6 (0 + y3.toNat * 1) [V.int .u32 (IntKind.u32.wrap (IntKind.u32.wrap (IntKind.u32.wrap (PI.bits IntKind.u32 (fun x1 x2 => x1 ^^^ x2) (PI.bits IntKind.u32 (fun x1 x2 => x1
 ^^^ x2) x15 x18) (x6.fdiv 1024) + x19) + PI.bits IntKind.u32 (fun x1 x2 => x1 ^^^ x2) (PI.bits IntKind.u32 (fun x1 x2 => x1 ^^^ x2) x9 x12) (x5.fdiv 8)) + x20))]) false])))))) else PI.asInt .u32
 y4[0]? fun x21 => PI.asInt .u32 y4[1]? fun x22 => PI.asInt .u32 y4[2]? fun x23 => PI.asInt .u32 y4[3]? fun x24 => PI.asInt .u32 y4[4]? fun x25 => PI.asInt .u32 y4[5]? fun x26 => PI.asInt .u32 y4[6]?
 fun x27 => PI.asInt .u32 y4[7]? fun x28 => need (O.R 0 290 []) fun x29 => PI.asAgg (some x29) fun x30 => O.L 0 248 2 [true, true, true, true, false, true] [] k [(2, V.ptr 0 0), (4, V.ptr 1 0), (5,
 V.ptr 2 0), (11, V.ptr 3 0), (97, V.agg (renV.renL [] x30)), (98, V.int .i64 0)] [Ob.box 278 y4 false, Ob.box 278 y5 false, Ob.box 306 y6 false, Ob.box 278 [V.int .u32 x21, V.int .u32 x22, V.int .u32
 x23, V.int .u32 x24, V.int .u32 x25, V.int .u32 x26, V.int .u32 x27, V.int .u32 x28] false]
theorem e248l1 (k m q0 q1 : Nat) (y1 : Nat) (y2 : List V) (y3 : Int) (y4 : List V) (y5 : List V) (y6 : List V) : runL C k 248 0 [true, true, false, true] [] (m + 1) [(1, V.sl y1 y2), (2, V.ptr 0 0),
 (4, V.ptr 1 0), (5, V.ptr 2 0), (16, V.int .i64 y3)] [Ob.box 278 y4 false, Ob.box 278 y5 false, Ob.box 306 y6 false] = T248l1 (orc C k) k m q0 q1 y1 y2 y3 y4 y5 y6 := by kernel_rfl
theorem E248l1 (y1 : Nat) (y2 : List V) (y3 : Int) (y4 : List V) (y5 : List V) (y6 : List V) {r : V} (h : T248l1 (orcE C) 0 0 0 0 y1 y2 y3 y4 y5 y6 = some r) : loopE C 248 0 [true, true, false, true]
 [] [(1, V.sl y1 y2), (2, V.ptr 0 0), (4, V.ptr 1 0), (5, V.ptr 2 0), (16, V.int .i64 y3)] [Ob.box 278 y4 false, Ob.box 278 y5 false, Ob.box 306 y6 false] = some r := ofL (j := 0) (F := fun s => T248l1
 (orc C s.k) s.k s.m 0 0 y1 y2 y3 y4 y5 y6) (fs0 fun k m => e248l1 k m 0 0 y1 y2 y3 y4 y5 y6) (by
  unfold T248l1
  repeat' first | with_reducible exact cC | with_reducible refine cN cR fun _ => ?_ | with_reducible refine cT fun _ => ?_ | with_reducible refine cI fun _ => ?_ | with_reducible refine cM ?_ | with_reducible refine cF ?_ ?_ | with_reducible refine cA fun _ => ?_ | with_reducible refine cN cC fun _ => ?_ | with_reducible exact cR | exact cD0 gK | exact cD0 gM) h

noncomputable def T292 (O : Orc) (k m q0 q1 : Nat) (y1 : Int) : Option V := some (V.tup [V.int .i64 (IntKind.i64.wrap (4294967295 - y1))])
theorem e292 (k m q0 q1 : Nat) (y1 : Int) : runV C (k + 1) 292 [V.int .i64 y1] = T292 (orc C k) k m q0 q1 y1 := by kernel_rfl
theorem E292 (y1 : Int) {r : V} (h : T292 (orcE C) 0 0 0 0 y1 = some r) : runE C 292 [V.int .i64 y1] = some r := ofR (F := fun s => T292 (orc C s.k) s.k s.m 0 0 y1) (fun k => e292 k k 0 0 y1) (by
  unfold T292
  exact cC) h

noncomputable def T289 (O : Orc) (k m q0 q1 : Nat) (y1 : Int) (y2 : Int) : Option V := must (decide (0 ≤ IntKind.u64.wrap (32 - PI.bits IntKind.u64 (fun x1 x2 => x1 &&& x2) (IntKind.u64.wrap y2) 31)))
 (some (V.tup [V.int .u32 (PI.bits IntKind.u32 (fun x1 x2 => x1 ||| x2) (IntKind.u32.wrap (y1 * 2 ^ min (PI.bits IntKind.u64 (fun x1 x2 => x1 &&& x2) (IntKind.u64.wrap y2) 31).toNat 32)) (y1.fdiv (2 ^
 min (IntKind.u64.wrap (32 - PI.bits IntKind.u64 (fun x1 x2 => x1 &&& x2) (IntKind.u64.wrap y2) 31)).toNat 32)))]))
theorem e289 (k m q0 q1 : Nat) (y1 : Int) (y2 : Int) : runV C (k + 1) 289 [V.int .u32 y1, V.int .i64 y2] = T289 (orc C k) k m q0 q1 y1 y2 := by kernel_rfl
theorem E289 (y1 : Int) (y2 : Int) {r : V} (h : T289 (orcE C) 0 0 0 0 y1 y2 = some r) : runE C 289 [V.int .u32 y1, V.int .i64 y2] = some r := ofR (F := fun s => T289 (orc C s.k) s.k s.m 0 0 y1 y2) (fun
 k => e289 k k 0 0 y1 y2) (by
  unfold T289
  repeat' first | with_reducible exact cC | with_reducible refine cM ?_) h

noncomputable def T290 (O : Orc) (k m q0 q1 : Nat)  : Option V := some (V.agg [V.int .u32 1116352408, V.int .u32 1899447441, V.int .u32 3049323471, V.int .u32 3921009573, V.int .u32 961987163, V.int
 .u32 1508970993, V.int .u32 2453635748, V.int .u32 2870763221, V.int .u32 3624381080, V.int .u32 310598401, V.int .u32 607225278, V.int .u32 1426881987, V.int .u32 1925078388, V.int .u32 2162078206,
 V.int .u32 2614888103, V.int .u32 3248222580, V.int .u32 3835390401, V.int .u32 4022224774, V.int .u32 264347078, V.int .u32 604807628, V.int .u32 770255983, V.int .u32 1249150122, V.int .u32
 1555081692, V.int .u32 1996064986, V.int .u32 2554220882, V.int .u32 2821834349, V.int .u32 2952996808, V.int .u32 3210313671, V.int .u32 3336571891, V.int .u32 3584528711, V.int .u32 113926993, V.int
 .u32 338241895, V.int .u32 666307205, V.int .u32 773529912, V.int .u32 1294757372, V.int .u32 1396182291, V.int .u32 1695183700, V.int .u32 1986661051, V.int .u32 2177026350, V.int .u32 2456956037,
 V.int .u32 2730485921, V.int .u32 2820302411, V.int .u32 3259730800, V.int .u32 3345764771, V.int .u32 3516065817, V.int .u32 3600352804, V.int .u32 4094571909, V.int .u32 275423344, V.int .u32
 430227734, V.int .u32 506948616, V.int .u32 659060556, V.int .u32 883997877, V.int .u32 958139571, V.int .u32 1322822218, V.int .u32 1537002063, V.int .u32 1747873779, V.int .u32 1955562222, V.int
 .u32 2024104815, V.int .u32 2227730452, V.int .u32 2361852424, V.int .u32 2428436474, V.int .u32 2756734187, V.int .u32 3204031479, V.int .u32 3329325298])
theorem e290 (k m q0 q1 : Nat)  : runV C (k + 1) 290 [] = T290 (orc C k) k m q0 q1  := by kernel_rfl
theorem E290  {r : V} (h : T290 (orcE C) 0 0 0 0  = some r) : runE C 290 [] = some r := ofR (F := fun s => T290 (orc C s.k) s.k s.m 0 0 ) (fun k => e290 k k 0 0 ) (by
  unfold T290
  exact cC) h

noncomputable def T248l2 (O : Orc) (k m q0 q1 : Nat) (y1 : List V) (y2 : Int) (y3 : List V) (y4 : List V) (y5 : List V) (y6 : List V) : Option V := bif decide (y2 < 64) then must (inB y2 64) (PI.asInt
 .u32 y1[y2.toNat * 1]? fun x1 => PI.asInt .u32 y6[0]? fun x2 => PI.asInt .u32 y6[1]? fun x3 => PI.asInt .u32 y6[2]? fun x4 => PI.asInt .u32 y6[3]? fun x5 => PI.asInt .u32 y6[4]? fun x6 => PI.asInt
 .u32 y6[5]? fun x7 => PI.asInt .u32 y6[6]? fun x8 => PI.asInt .u32 y6[7]? fun x9 => must (inB y2 64) (PI.asInt .u32 y5[0 + y2.toNat * 1]? fun x10 => need (O.R 0 291 [V.agg [V.int .u32 x2, V.int .u32
 x3, V.int .u32 x4, V.int .u32 x5, V.int .u32 x6, V.int .u32 x7, V.int .u32 x8, V.int .u32 x9], V.int .u32 x10, V.int .u32 x1]) fun x11 => asTup (some x11) fun x12 => PI.asInt .u32 x12[0]? fun x13 =>
 PI.asInt .u32 x12[1]? fun x14 => PI.asInt .u32 x12[2]? fun x15 => PI.asInt .u32 x12[3]? fun x16 => PI.asInt .u32 x12[4]? fun x17 => PI.asInt .u32 x12[5]? fun x18 => PI.asInt .u32 x12[6]? fun x19 =>
 PI.asInt .u32 x12[7]? fun x20 => must ([V.int .u32 x13, V.int .u32 x14, V.int .u32 x15, V.int .u32 x16, V.int .u32 x17, V.int .u32 x18, V.int .u32 x19, V.int .u32 x20].length.beq 8 && true && (0 +
 [V.int .u32 x13, V.int .u32 x14, V.int .u32 x15, V.int .u32 x16, V.int .u32 x17, V.int .u32 x18, V.int .u32 x19, V.int .u32 x20].length).ble y6.length && flatB C 278 [V.int .u32 x13, V.int .u32 x14,
 V.int .u32 x15, V.int .u32 x16, V.int .u32 x17, V.int .u32 x18, V.int .u32 x19, V.int .u32 x20]) (O.L 0 248 2 [true, true, true, true, false, true] [] m [(2, V.ptr 0 0), (4, V.ptr 1 0), (5, V.ptr 2
 0), (11, V.ptr 3 0), (97, V.agg (renV.renL [] y1)), (98, V.int .i64 (IntKind.i64.wrap (y2 + 1)))] [Ob.box 278 y3 false, Ob.box 278 y4 false, Ob.box 306 y5 false, Ob.box 278 (splice y6 0 [V.int .u32
 x13, V.int .u32 x14, V.int .u32 x15, V.int .u32 x16, V.int .u32 x17, V.int .u32 x18, V.int .u32 x19, V.int .u32 x20]) false]))) else O.L 0 248 4 [true, true, true, true, true, false, true] [] k [(2,
 V.ptr 0 0), (4, V.ptr 1 0), (11, V.ptr 2 0), (109, V.int .i64 0)] [Ob.box 278 y3 false, Ob.box 278 y4 false, Ob.box 278 y6 false]
theorem e248l2 (k m q0 q1 : Nat) (y1 : List V) (y2 : Int) (y3 : List V) (y4 : List V) (y5 : List V) (y6 : List V) : runL C k 248 2 [true, true, true, true, false, true] [] (m + 1) [(2, V.ptr 0 0), (4,
 V.ptr 1 0), (5, V.ptr 2 0), (11, V.ptr 3 0), (97, V.agg y1), (98, V.int .i64 y2)] [Ob.box 278 y3 false, Ob.box 278 y4 false, Ob.box 306 y5 false, Ob.box 278 y6 false] = T248l2 (orc C k) k m q0 q1 y1
 y2 y3 y4 y5 y6 := by kernel_rfl
theorem E248l2 (y1 : List V) (y2 : Int) (y3 : List V) (y4 : List V) (y5 : List V) (y6 : List V) {r : V} (h : T248l2 (orcE C) 0 0 0 0 y1 y2 y3 y4 y5 y6 = some r) : loopE C 248 2 [true, true, true, true,
 false, true] [] [(2, V.ptr 0 0), (4, V.ptr 1 0), (5, V.ptr 2 0), (11, V.ptr 3 0), (97, V.agg y1), (98, V.int .i64 y2)] [Ob.box 278 y3 false, Ob.box 278 y4 false, Ob.box 306 y5 false, Ob.box 278 y6
 false] = some r := ofL (j := 0) (F := fun s => T248l2 (orc C s.k) s.k s.m 0 0 y1 y2 y3 y4 y5 y6) (fs0 fun k m => e248l2 k m 0 0 y1 y2 y3 y4 y5 y6) (by
  unfold T248l2
  repeat' first | with_reducible exact cC | with_reducible refine cN cR fun _ => ?_ | with_reducible refine cT fun _ => ?_ | with_reducible refine cI fun _ => ?_ | with_reducible refine cM ?_ | with_reducible refine cF ?_ ?_ | with_reducible refine cN cC fun _ => ?_ | with_reducible exact cR | exact cD0 gK | exact cD0 gM) h

noncomputable def T291 (O : Orc) (k m q0 q1 : Nat) (y1 : Int) (y2 : Int) (y3 : Int) (y4 : Int) (y5 : Int) (y6 : Int) (y7 : Int) (y8 : Int) (y9 : Int) (y10 : Int) : Option V := need (O.R 0 302 [V.int
 .u32 y5, V.int .i64 6]) fun x1 => asTup (some x1) fun x2 => PI.asInt .u32 x2[0]? fun x3 => need (O.R 0 302 [V.int .u32 y5, V.int .i64 11]) fun x4 => asTup (some x4) fun x5 => PI.asInt .u32 x5[0]? fun
 x6 => need (O.R 0 302 [V.int .u32 y5, V.int .i64 25]) fun x7 => asTup (some x7) fun x8 => PI.asInt .u32 x8[0]? fun x9 => need (O.R 0 302 [V.int .u32 y1, V.int .i64 2]) fun x10 => asTup (some x10) fun
 x11 => PI.asInt .u32 x11[0]? fun x12 => need (O.R 0 302 [V.int .u32 y1, V.int .i64 13]) fun x13 => asTup (some x13) fun x14 => PI.asInt .u32 x14[0]? fun x15 => need (O.R 0 302 [V.int .u32 y1, V.int
 .i64 22]) fun x16 => asTup (some x16) fun x17 => PI.asInt .u32 x17[0]? fun x18 => some (V.tup [V.int .u32 (IntKind.u32.wrap (IntKind.u32.wrap (IntKind.u32.wrap (IntKind.u32.wrap (IntKind.u32.wrap (y8
 + PI.bits IntKind.u32 (fun x1 x2 => x1 ^^^ x2) (PI.bits IntKind.u32 (fun x1 x2 => x1 ^^^ x2) x3 x6) x9) + PI.bits IntKind.u32 (fun x1 x2 => x1 ^^^ x2) (PI.bits IntKind.u32 (fun x1 x2 => x1 &&& x2) y5
 y6) (PI.bits IntKind.u32 (fun x1 x2 => x1 &&& x2) (PI.bits IntKind.u32 (fun x1 x2 => x1 ^^^ x2) 4294967295 y5) y7)) + y10) + y9) + IntKind.u32.wrap (PI.bits IntKind.u32 (fun x1 x2 => x1 ^^^ x2)
 (PI.bits IntKind.u32 (fun x1 x2 => x1 ^^^ x2) x12 x15) x18 + PI.bits IntKind.u32 (fun x1 x2 => x1 ^^^ x2) (PI.bits IntKind.u32 (fun x1 x2 => x1 ^^^ x2) (PI.bits IntKind.u32 (fun x1 x2 => x1 &&& x2) y1
 y2) (PI.bits IntKind.u32 (fun x1 x2 => x1 &&& x2) y1 y3)) (PI.bits IntKind.u32 (fun x1 x2 => x1 &&& x2) y2 y3)))), V.int .u32 y1, V.int .u32 y2, V.int .u32 y3, V.int .u32 (IntKind.u32.wrap (y4 +
 IntKind.u32.wrap (IntKind.u32.wrap (IntKind.u32.wrap (IntKind.u32.wrap (y8 + PI.bits IntKind.u32 (fun x1 x2 => x1 ^^^ x2) (PI.bits IntKind.u32 (fun x1 x2 => x1 ^^^ x2) x3 x6) x9) + PI.bits IntKind.u32
 (fun x1 x2 => x1 ^^^ x2) (PI.bits IntKind.u32 (fun x1 x2 => x1 &&& x2) y5 y6) (PI.bits IntKind.u32 (fun x1 x2 => x1 &&& x2) (PI.bits IntKind.u32 (fun x1 x2 => x1 ^^^ x2) 4294967295 y5) y7)) + y10) +
 y9))), V.int .u32 y5, V.int .u32 y6, V.int .u32 y7])
theorem e291 (k m q0 q1 : Nat) (y1 : Int) (y2 : Int) (y3 : Int) (y4 : Int) (y5 : Int) (y6 : Int) (y7 : Int) (y8 : Int) (y9 : Int) (y10 : Int) : runV C (k + 1) 291 [V.agg [V.int .u32 y1, V.int .u32 y2,
 V.int .u32 y3, V.int .u32 y4, V.int .u32 y5, V.int .u32 y6, V.int .u32 y7, V.int .u32 y8], V.int .u32 y9, V.int .u32 y10] = T291 (orc C k) k m q0 q1 y1 y2 y3 y4 y5 y6 y7 y8 y9 y10 := by kernel_rfl
theorem E291 (y1 : Int) (y2 : Int) (y3 : Int) (y4 : Int) (y5 : Int) (y6 : Int) (y7 : Int) (y8 : Int) (y9 : Int) (y10 : Int) {r : V} (h : T291 (orcE C) 0 0 0 0 y1 y2 y3 y4 y5 y6 y7 y8 y9 y10 = some r) :
 runE C 291 [V.agg [V.int .u32 y1, V.int .u32 y2, V.int .u32 y3, V.int .u32 y4, V.int .u32 y5, V.int .u32 y6, V.int .u32 y7, V.int .u32 y8], V.int .u32 y9, V.int .u32 y10] = some r := ofR (F := fun s
 => T291 (orc C s.k) s.k s.m 0 0 y1 y2 y3 y4 y5 y6 y7 y8 y9 y10) (fun k => e291 k k 0 0 y1 y2 y3 y4 y5 y6 y7 y8 y9 y10) (by
  unfold T291
  repeat' first | with_reducible exact cC | with_reducible refine cN cR fun _ => ?_ | with_reducible refine cT fun _ => ?_ | with_reducible refine cI fun _ => ?_ | with_reducible refine cN cC fun _ => ?_ | with_reducible exact cR) h

noncomputable def T248l3 (O : Orc) (k m q0 q1 : Nat) (y1 : Int) (y2 : List V) (y3 : List V) (y4 : List V) : Option V := bif decide (y1 < 8) then must (inB y1 8) (PI.asInt .u32 y4[0 + y1.toNat * 1]? fun
 x1 => must (inB y1 8) (PI.asInt .u32 y2[0 + y1.toNat * 1]? fun x2 => must (inB y1 8) (must ((V.int .u32 (IntKind.u32.wrap (x1 + x2))).solid && true && (0 + y1.toNat * 1 + 1).ble y4.length && flatB C
 278 [V.int .u32 (IntKind.u32.wrap (x1 + x2))]) (O.L 0 248 4 [true, true, true, true, true, false, true] [] m [(2, V.ptr 0 0), (4, V.ptr 1 0), (11, V.ptr 2 0), (109, V.int .i64 (IntKind.i64.wrap (y1 +
 1)))] [Ob.box 278 y2 false, Ob.box 278 y3 false, Ob.box 278 (splice y4 (0 + y1.toNat * 1) [V.int .u32 (IntKind.u32.wrap (x1 + x2))]) false])))) else PI.asInt .u32 y4[0]? fun x3 => PI.asInt .u32 y4[1]?
 fun x4 => PI.asInt .u32 y4[2]? fun x5 => PI.asInt .u32 y4[3]? fun x6 => PI.asInt .u32 y4[4]? fun x7 => PI.asInt .u32 y4[5]? fun x8 => PI.asInt .u32 y4[6]? fun x9 => PI.asInt .u32 y4[7]? fun x10 =>
 must ([V.int .u32 x3, V.int .u32 x4, V.int .u32 x5, V.int .u32 x6, V.int .u32 x7, V.int .u32 x8, V.int .u32 x9, V.int .u32 x10].length.beq 8 && true && (0 + [V.int .u32 x3, V.int .u32 x4, V.int .u32
 x5, V.int .u32 x6, V.int .u32 x7, V.int .u32 x8, V.int .u32 x9, V.int .u32 x10].length).ble y3.length && flatB C 278 [V.int .u32 x3, V.int .u32 x4, V.int .u32 x5, V.int .u32 x6, V.int .u32 x7, V.int
 .u32 x8, V.int .u32 x9, V.int .u32 x10]) (some (V.tup [V.int .u32 x3, V.int .u32 x4, V.int .u32 x5, V.int .u32 x6, V.int .u32 x7, V.int .u32 x8, V.int .u32 x9, V.int .u32 x10]))
theorem e248l3 (k m q0 q1 : Nat) (y1 : Int) (y2 : List V) (y3 : List V) (y4 : List V) : runL C k 248 4 [true, true, true, true, true, false, true] [] (m + 1) [(2, V.ptr 0 0), (4, V.ptr 1 0), (11, V.ptr
 2 0), (109, V.int .i64 y1)] [Ob.box 278 y2 false, Ob.box 278 y3 false, Ob.box 278 y4 false] = T248l3 (orc C k) k m q0 q1 y1 y2 y3 y4 := by kernel_rfl
theorem E248l3 (y1 : Int) (y2 : List V) (y3 : List V) (y4 : List V) {r : V} (h : T248l3 (orcE C) 0 0 0 0 y1 y2 y3 y4 = some r) : loopE C 248 4 [true, true, true, true, true, false, true] [] [(2, V.ptr
 0 0), (4, V.ptr 1 0), (11, V.ptr 2 0), (109, V.int .i64 y1)] [Ob.box 278 y2 false, Ob.box 278 y3 false, Ob.box 278 y4 false] = some r := ofL (j := 0) (F := fun s => T248l3 (orc C s.k) s.k s.m 0 0 y1
 y2 y3 y4) (fs0 fun k m => e248l3 k m 0 0 y1 y2 y3 y4) (by
  unfold T248l3
  repeat' first | with_reducible exact cC | with_reducible refine cI fun _ => ?_ | with_reducible refine cM ?_ | with_reducible refine cF ?_ ?_ | exact cD0 gM) h

noncomputable def T302 (O : Orc) (k m q0 q1 : Nat) (y1 : Int) (y2 : Int) : Option V := need (O.R 0 289 [V.int .u32 y1, V.int .i64 (IntKind.i64.wrap (0 - y2))]) fun x1 => asTup (some x1) fun x2 =>
 PI.asInt .u32 x2[0]? fun x3 => some (V.tup [V.int .u32 x3])
theorem e302 (k m q0 q1 : Nat) (y1 : Int) (y2 : Int) : runV C (k + 1) 302 [V.int .u32 y1, V.int .i64 y2] = T302 (orc C k) k m q0 q1 y1 y2 := by kernel_rfl
theorem E302 (y1 : Int) (y2 : Int) {r : V} (h : T302 (orcE C) 0 0 0 0 y1 y2 = some r) : runE C 302 [V.int .u32 y1, V.int .i64 y2] = some r := ofR (F := fun s => T302 (orc C s.k) s.k s.m 0 0 y1 y2) (fun
 k => e302 k k 0 0 y1 y2) (by
  unfold T302
  repeat' first | with_reducible exact cC | with_reducible refine cN cR fun _ => ?_ | with_reducible refine cT fun _ => ?_ | with_reducible refine cI fun _ => ?_ | with_reducible refine cN cC fun _ => ?_ | with_reducible exact cR) h

end Go.Proofs.Ytehpmolckdmibaa.EqG

