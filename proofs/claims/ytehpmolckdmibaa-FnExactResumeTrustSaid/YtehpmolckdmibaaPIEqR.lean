/-
  The functions of a table, as the interpreter tells them. Printed by a program.
-/
import Derived.Test.YtehpmolckdmibaaPITabR
import Derived.Test.YtehpmolckdmibaaPIPlain
import Derived.KernelRfl
namespace Go.Proofs.Ytehpmolckdmibaa.EqR
open Go Go.PI
set_option maxRecDepth 100000
set_option maxHeartbeats 4000000
set_option linter.unusedVariables false
set_option linter.unusedSimpArgs false
noncomputable abbrev C := tabR.cfg

noncomputable def T8 (O : Orc) (k m q0 q1 : Nat) (y1 : Int) (y2 : Int) (y3 : Nat) (y4 : List V) (y5 : Nat) (y6 : List V) (y7 : Nat) (y8 : List V) (y9 : Nat) (y10 : List V) (y11 : Int) (y12 : Bool) (y13
 : Nat) (y14 : List V) (y15 : Int) (y16 : Int) (y17 : Int) (y18 : Nat) (y19 : List V) (y20 : Nat) (y21 : List V) (y22 : Nat) (y23 : List V) (y24 : Nat) (y25 : List V) : Option V := need (O.R 0 60
 [V.agg [V.int .i64 y1, V.int .i64 y2, V.sl y3 y4, V.sl y5 y6, V.sl y7 y8, V.sl y9 y10, V.int .i64 y11, V.bool y12, V.sl y13 y14, V.int .i64 y15], V.int .i64 1048576]) fun x1 => asTup (some x1) fun x2
 => PI.asInt .i64 x2[0]? fun x3 => bif decide (x3 < 0) then some (V.tup [V.bool true]) else need (O.R 0 28 [V.agg [V.int .i64 y16, V.int .i64 y17, V.sl y18 y19, V.sl y20 y21, V.sl y22 y23], V.int .i64
 x3]) fun x4 => asTup (some x4) fun x5 => PI.asInt .i64 x5[0]? fun x6 => bif decide (x6 < 0) then some (V.tup [V.bool true]) else need (O.R 0 29 [V.sl y24 y25, V.int .i64 x6]) fun x7 => asTup (some x7)
 fun x8 => PI.asInt .i64 x8[0]? fun x9 => bif decide (x9 < 0) then some (V.tup [V.bool true]) else need (O.R 0 62 [V.agg [V.int .i64 y1, V.int .i64 y2, V.sl y3 y4, V.sl y5 y6, V.sl y7 y8, V.sl y9 y10,
 V.int .i64 y11, V.bool y12, V.sl y13 y14, V.int .i64 y15]]) fun x10 => asTup (some x10) fun x11 => PI.asInt .i64 x11[0]? fun x12 => PI.asInt .i64 x11[1]? fun x13 => asOsl x11[2]? fun x14 x15 => asOsl
 x11[3]? fun x16 x17 => asOsl x11[4]? fun x18 x19 => asOsl x11[5]? fun x20 x21 => PI.asInt .i64 x11[6]? fun x22 => PI.asBool x11[7]? fun x23 => asOsl x11[8]? fun x24 x25 => PI.asInt .i64 x11[9]? fun
 x26 => need (O.R 0 31 [V.agg [V.int .i64 y16, V.int .i64 y17, V.sl y18 y19, V.sl y20 y21, V.sl y22 y23]]) fun x27 => asTup (some x27) fun x28 => PI.asInt .i64 x28[0]? fun x29 => PI.asInt .i64 x28[1]?
 fun x30 => asOsl x28[2]? fun x31 x32 => asOsl x28[3]? fun x33 x34 => asOsl x28[4]? fun x35 x36 => need (O.R 0 32 [V.sl y24 y25]) fun x37 => asTup (some x37) fun x38 => asOsl x38[0]? fun x39 x40 =>
 need (O.R 0 61 [V.agg [V.int .i64 x12, V.int .i64 x13, V.sl x14 x15, V.sl x16 x17, V.sl x18 x19, V.sl x20 (bareL x21), V.int .i64 x22, V.bool x23, V.sl x24 (bareL x25), V.int .i64 x26], V.agg [V.int
 .i64 x29, V.int .i64 x30, V.sl x31 x32, V.sl x33 x34, V.sl x35 x36], V.sl x39 (bareL x40)]) fun x41 => asTup (some x41) fun x42 => PI.asInt .i64 x42[0]? fun x43 => PI.asInt .i64 x42[1]? fun x44 =>
 PI.asInt .i64 x42[2]? fun x45 => asSl x42[3]? fun x46 x47 => asSl x42[4]? fun x48 x49 => asSl x42[5]? fun x50 x51 => asSl x42[6]? fun x52 x53 => PI.asInt .i64 x42[7]? fun x54 => PI.asBool x42[8]? fun
 x55 => asSl x42[9]? fun x56 x57 => PI.asInt .i64 x42[10]? fun x58 => need (O.R 0 62 [V.agg [V.int .i64 y1, V.int .i64 y2, V.sl y3 y4, V.sl y5 y6, V.sl y7 y8, V.sl y9 y10, V.int .i64 y11, V.bool y12,
 V.sl y13 y14, V.int .i64 y15]]) fun x59 => asTup (some x59) fun x60 => PI.asInt .i64 x60[0]? fun x61 => PI.asInt .i64 x60[1]? fun x62 => asOsl x60[2]? fun x63 x64 => asOsl x60[3]? fun x65 x66 => asOsl
 x60[4]? fun x67 x68 => asOsl x60[5]? fun x69 x70 => PI.asInt .i64 x60[6]? fun x71 => PI.asBool x60[7]? fun x72 => asOsl x60[8]? fun x73 x74 => PI.asInt .i64 x60[9]? fun x75 => need (O.R 0 31 [V.agg
 [V.int .i64 y16, V.int .i64 y17, V.sl y18 y19, V.sl y20 y21, V.sl y22 y23]]) fun x76 => asTup (some x76) fun x77 => PI.asInt .i64 x77[0]? fun x78 => PI.asInt .i64 x77[1]? fun x79 => asOsl x77[2]? fun
 x80 x81 => asOsl x77[3]? fun x82 x83 => asOsl x77[4]? fun x84 x85 => need (O.R 0 32 [V.sl y24 y25]) fun x86 => asTup (some x86) fun x87 => asOsl x87[0]? fun x88 x89 => need (O.R 0 63 [V.agg [V.int
 .i64 x61, V.int .i64 x62, V.sl x63 x64, V.sl x65 x66, V.sl x67 x68, V.sl x69 (bareL x70), V.int .i64 x71, V.bool x72, V.sl x73 (bareL x74), V.int .i64 x75], V.agg [V.int .i64 x78, V.int .i64 x79, V.sl
 x80 x81, V.sl x82 x83, V.sl x84 x85], V.sl x88 (bareL x89)]) fun x90 => asTup (some x90) fun x91 => PI.asInt .i64 x91[0]? fun x92 => PI.asInt .i64 x91[1]? fun x93 => PI.asInt .i64 x91[2]? fun x94 =>
 asOsl x91[3]? fun x95 x96 => asOsl x91[4]? fun x97 x98 => asOsl x91[5]? fun x99 x100 => asOsl x91[6]? fun x101 x102 => PI.asInt .i64 x91[7]? fun x103 => PI.asBool x91[8]? fun x104 => asOsl x91[9]? fun
 x105 x106 => PI.asInt .i64 x91[10]? fun x107 => need (O.R 0 34 [V.agg [V.int .i64 x92, V.int .i64 x93, V.int .i64 x94, V.sl x95 x96, V.sl x97 x98, V.sl x99 x100, V.sl x101 (bareL x102), V.int .i64
 x103, V.bool x104, V.sl x105 (bareL x106), V.int .i64 x107], V.agg [V.int .i64 x43, V.int .i64 x44, V.int .i64 x45, V.sl x46 x47, V.sl x48 x49, V.sl x50 x51, V.sl x52 x53, V.int .i64 x54, V.bool x55,
 V.sl x56 x57, V.int .i64 x58]]) fun x108 => asTup (some x108) fun x109 => PI.asBool x109[0]? fun x110 => bif !x110 then some (V.tup [V.bool false]) else need (O.R 0 62 [V.agg [V.int .i64 y1, V.int
 .i64 y2, V.sl y3 y4, V.sl y5 y6, V.sl y7 y8, V.sl y9 y10, V.int .i64 y11, V.bool y12, V.sl y13 y14, V.int .i64 y15]]) fun x111 => asTup (some x111) fun x112 => PI.asInt .i64 x112[0]? fun x113 =>
 PI.asInt .i64 x112[1]? fun x114 => asOsl x112[2]? fun x115 x116 => asOsl x112[3]? fun x117 x118 => asOsl x112[4]? fun x119 x120 => asOsl x112[5]? fun x121 x122 => PI.asInt .i64 x112[6]? fun x123 =>
 PI.asBool x112[7]? fun x124 => asOsl x112[8]? fun x125 x126 => PI.asInt .i64 x112[9]? fun x127 => need (O.R 0 64 [V.agg [V.int .i64 x61, V.int .i64 x62, V.sl x63 x64, V.sl x65 x66, V.sl x67 x68, V.sl
 x69 (bareL x70), V.int .i64 x71, V.bool x72, V.sl x73 (bareL x74), V.int .i64 x75], V.agg [V.int .i64 x113, V.int .i64 x114, V.sl x115 x116, V.sl x117 x118, V.sl x119 x120, V.sl x121 (bareL x122),
 V.int .i64 x123, V.bool x124, V.sl x125 (bareL x126), V.int .i64 x127]]) fun x128 => asTup (some x128) fun x129 => PI.asBool x129[0]? fun x130 => bif !x130 then some (V.tup [V.bool false]) else need
 (O.R 0 31 [V.agg [V.int .i64 y16, V.int .i64 y17, V.sl y18 y19, V.sl y20 y21, V.sl y22 y23]]) fun x131 => asTup (some x131) fun x132 => PI.asInt .i64 x132[0]? fun x133 => PI.asInt .i64 x132[1]? fun
 x134 => asOsl x132[2]? fun x135 x136 => asOsl x132[3]? fun x137 x138 => asOsl x132[4]? fun x139 x140 => need (O.R 0 35 [V.agg [V.int .i64 x78, V.int .i64 x79, V.sl x80 x81, V.sl x82 x83, V.sl x84
 x85], V.agg [V.int .i64 x133, V.int .i64 x134, V.sl x135 x136, V.sl x137 x138, V.sl x139 x140]]) fun x141 => asTup (some x141) fun x142 => PI.asBool x142[0]? fun x143 => bif !x143 then some (V.tup
 [V.bool false]) else need (O.R 0 32 [V.sl y24 y25]) fun x144 => asTup (some x144) fun x145 => asOsl x145[0]? fun x146 x147 => need (O.R 0 36 [V.sl x88 (bareL x89), V.sl x146 (bareL x147)]) fun x148 =>
 asTup (some x148) fun x149 => PI.asBool x149[0]? fun x150 => bif !x150 then some (V.tup [V.bool false]) else need (O.W 0 65 [0, 1, 2, 3, 4] [V.agg [V.int .i64 x61, V.int .i64 x62, V.ref 0, V.ref 1,
 V.ref 2, V.ref 3, V.int .i64 x71, V.bool x72, V.ref 4, V.int .i64 x75], V.int .i64 1] [Ob.row 5 x63 x64 false, Ob.row 5 x65 x66 false, Ob.row 5 x67 x68 false, Ob.nrow [] 103 x69 x70, Ob.nrow [] 22 x73
 x74]) fun x151 => asTup (some x151) fun x152 => PI.asInt .i64 x152[0]? fun x153 => asOsl x152[1]? fun x154 x155 => asOsl x152[2]? fun x156 x157 => asOsl x152[3]? fun x158 x159 => asOsl x152[4]? fun
 x160 x161 => asOsl x152[5]? fun x162 x163 => need (O.W 0 37 [0, 1, 2] [V.agg [V.int .i64 x78, V.int .i64 x79, V.ref 0, V.ref 1, V.ref 2], V.int .i64 x153] [Ob.row 5 x80 x81 false, Ob.row 5 x82 x83
 false, Ob.row 5 x84 x85 false]) fun x164 => asTup (some x164) fun x165 => PI.asInt .i64 x165[0]? fun x166 => asOsl x165[1]? fun x167 x168 => asOsl x165[2]? fun x169 x170 => asOsl x165[3]? fun x171
 x172 => need (O.W 0 38 [0] [V.ref 0, V.int .i64 x166] [Ob.nrow [] 103 x88 x89]) fun x173 => asTup (some x173) fun x174 => PI.asInt .i64 x174[0]? fun x175 => asOsl x174[1]? fun x176 x177 => bif decide
 (x175 < 0) then some (V.tup [V.bool false]) else need (O.R 0 34 [V.agg [V.int .i64 x92, V.int .i64 x93, V.int .i64 x94, V.sl x95 x96, V.sl x97 x98, V.sl x99 x100, V.sl x101 (bareL x102), V.int .i64
 x103, V.bool x104, V.sl x105 (bareL x106), V.int .i64 x107], V.agg [V.int .i64 x43, V.int .i64 x44, V.int .i64 x45, V.sl x46 x47, V.sl x48 x49, V.sl x50 x51, V.sl x52 x53, V.int .i64 x54, V.bool x55,
 V.sl x56 x57, V.int .i64 x58]]) fun x178 => asTup (some x178) fun x179 => PI.asBool x179[0]? fun x180 => bif !x180 then some (V.tup [V.bool false]) else need (O.W 0 39 [0, 1, 2, 3, 4] [V.agg [V.int
 .i64 x92, V.int .i64 x93, V.int .i64 x94, V.ref 0, V.ref 1, V.ref 2, V.ref 3, V.int .i64 x103, V.bool x104, V.ref 4, V.int .i64 x107], V.int .i64 1] [Ob.row 5 x95 x96 false, Ob.row 5 x97 x98 false,
 Ob.row 5 x99 x100 false, Ob.nrow [] 103 x101 x102, Ob.nrow [] 22 x105 x106]) fun x181 => asTup (some x181) fun x182 => PI.asInt .i64 x182[0]? fun x183 => asOsl x182[1]? fun x184 x185 => asOsl x182[2]?
 fun x186 x187 => asOsl x182[3]? fun x188 x189 => asOsl x182[4]? fun x190 x191 => asOsl x182[5]? fun x192 x193 => need (O.R 0 40 [V.agg [V.int .i64 x92, V.int .i64 x93, V.int .i64 x94, V.sl x184 x185,
 V.sl x186 x187, V.sl x188 x189, V.sl x190 (bareL x191), V.int .i64 x103, V.bool x104, V.sl x192 (bareL x193), V.int .i64 x107], V.int .i64 1]) fun x194 => asTup (some x194) fun x195 => PI.asInt .i64
 x195[0]? fun x196 => bif decide (x196 < 0) then some (V.tup [V.bool false]) else bif x196 != x183 then some (V.tup [V.bool false]) else need (O.R 0 62 [V.agg [V.int .i64 y1, V.int .i64 y2, V.sl y3 y4,
 V.sl y5 y6, V.sl y7 y8, V.sl y9 y10, V.int .i64 y11, V.bool y12, V.sl y13 y14, V.int .i64 y15]]) fun x197 => asTup (some x197) fun x198 => PI.asInt .i64 x198[0]? fun x199 => PI.asInt .i64 x198[1]? fun
 x200 => asOsl x198[2]? fun x201 x202 => asOsl x198[3]? fun x203 x204 => asOsl x198[4]? fun x205 x206 => asOsl x198[5]? fun x207 x208 => PI.asInt .i64 x198[6]? fun x209 => PI.asBool x198[7]? fun x210
 => asOsl x198[8]? fun x211 x212 => PI.asInt .i64 x198[9]? fun x213 => need (O.R 0 31 [V.agg [V.int .i64 y16, V.int .i64 y17, V.sl y18 y19, V.sl y20 y21, V.sl y22 y23]]) fun x214 => asTup (some x214)
 fun x215 => PI.asInt .i64 x215[0]? fun x216 => PI.asInt .i64 x215[1]? fun x217 => asOsl x215[2]? fun x218 x219 => asOsl x215[3]? fun x220 x221 => asOsl x215[4]? fun x222 x223 => need (O.R 0 32 [V.sl
 y24 y25]) fun x224 => asTup (some x224) fun x225 => asOsl x225[0]? fun x226 x227 => need (O.R 0 63 [V.agg [V.int .i64 x199, V.int .i64 x200, V.sl x201 x202, V.sl x203 x204, V.sl x205 x206, V.sl x207
 (bareL x208), V.int .i64 x209, V.bool x210, V.sl x211 (bareL x212), V.int .i64 x213], V.agg [V.int .i64 x216, V.int .i64 x217, V.sl x218 x219, V.sl x220 x221, V.sl x222 x223], V.sl x226 (bareL x227)])
 fun x228 => asTup (some x228) fun x229 => PI.asInt .i64 x229[0]? fun x230 => PI.asInt .i64 x229[1]? fun x231 => PI.asInt .i64 x229[2]? fun x232 => asOsl x229[3]? fun x233 x234 => asOsl x229[4]? fun
 x235 x236 => asOsl x229[5]? fun x237 x238 => asOsl x229[6]? fun x239 x240 => PI.asInt .i64 x229[7]? fun x241 => PI.asBool x229[8]? fun x242 => asOsl x229[9]? fun x243 x244 => PI.asInt .i64 x229[10]?
 fun x245 => need (O.R 0 34 [V.agg [V.int .i64 x230, V.int .i64 x231, V.int .i64 x232, V.sl x233 x234, V.sl x235 x236, V.sl x237 x238, V.sl x239 (bareL x240), V.int .i64 x241, V.bool x242, V.sl x243
 (bareL x244), V.int .i64 x245], V.agg [V.int .i64 x43, V.int .i64 x44, V.int .i64 x45, V.sl x46 x47, V.sl x48 x49, V.sl x50 x51, V.sl x52 x53, V.int .i64 x54, V.bool x55, V.sl x56 x57, V.int .i64
 x58]]) fun x246 => asTup (some x246) fun x247 => PI.asBool x247[0]? fun x248 => bif !x248 then some (V.tup [V.bool false]) else need (O.R 0 40 [V.agg [V.int .i64 x92, V.int .i64 x93, V.int .i64 x94,
 V.sl x184 x185, V.sl x186 x187, V.sl x188 x189, V.sl x190 (bareL x191), V.int .i64 x103, V.bool x104, V.sl x192 (bareL x193), V.int .i64 x107], V.int .i64 1]) fun x249 => asTup (some x249) fun x250 =>
 PI.asInt .i64 x250[0]? fun x251 => bif decide (x251 < 0) then some (V.tup [V.bool false]) else bif x251 != x183 then some (V.tup [V.bool false]) else some (V.tup [V.bool true])
theorem e8 (k m q0 q1 : Nat) (y1 : Int) (y2 : Int) (y3 : Nat) (y4 : List V) (y5 : Nat) (y6 : List V) (y7 : Nat) (y8 : List V) (y9 : Nat) (y10 : List V) (y11 : Int) (y12 : Bool) (y13 : Nat) (y14 : List
 V) (y15 : Int) (y16 : Int) (y17 : Int) (y18 : Nat) (y19 : List V) (y20 : Nat) (y21 : List V) (y22 : Nat) (y23 : List V) (y24 : Nat) (y25 : List V) : runV C (k + 1) 8 [V.agg [V.int .i64 y1, V.int .i64
 y2, V.sl y3 y4, V.sl y5 y6, V.sl y7 y8, V.sl y9 y10, V.int .i64 y11, V.bool y12, V.sl y13 y14, V.int .i64 y15], V.agg [V.int .i64 y16, V.int .i64 y17, V.sl y18 y19, V.sl y20 y21, V.sl y22 y23], V.sl
 y24 y25] = T8 (orc C k) k m q0 q1 y1 y2 y3 y4 y5 y6 y7 y8 y9 y10 y11 y12 y13 y14 y15 y16 y17 y18 y19 y20 y21 y22 y23 y24 y25 := by kernel_rfl
theorem E8 (y1 : Int) (y2 : Int) (y3 : Nat) (y4 : List V) (y5 : Nat) (y6 : List V) (y7 : Nat) (y8 : List V) (y9 : Nat) (y10 : List V) (y11 : Int) (y12 : Bool) (y13 : Nat) (y14 : List V) (y15 : Int)
 (y16 : Int) (y17 : Int) (y18 : Nat) (y19 : List V) (y20 : Nat) (y21 : List V) (y22 : Nat) (y23 : List V) (y24 : Nat) (y25 : List V) {r : V} (h : T8 (orcE C) 0 0 0 0 y1 y2 y3 y4 y5 y6 y7 y8 y9 y10 y11
 y12 y13 y14 y15 y16 y17 y18 y19 y20 y21 y22 y23 y24 y25 = some r) : runE C 8 [V.agg [V.int .i64 y1, V.int .i64 y2, V.sl y3 y4, V.sl y5 y6, V.sl y7 y8, V.sl y9 y10, V.int .i64 y11, V.bool y12, V.sl y13
 y14, V.int .i64 y15], V.agg [V.int .i64 y16, V.int .i64 y17, V.sl y18 y19, V.sl y20 y21, V.sl y22 y23], V.sl y24 y25] = some r := ofR (F := fun s => T8 (orc C s.k) s.k s.m 0 0 y1 y2 y3 y4 y5 y6 y7 y8
 y9 y10 y11 y12 y13 y14 y15 y16 y17 y18 y19 y20 y21 y22 y23 y24 y25) (fun k => e8 k k 0 0 y1 y2 y3 y4 y5 y6 y7 y8 y9 y10 y11 y12 y13 y14 y15 y16 y17 y18 y19 y20 y21 y22 y23 y24 y25) (by
  unfold T8
  repeat' first | with_reducible exact cC | with_reducible refine cN cR fun _ => ?_ | with_reducible refine cN cQ fun _ => ?_ | with_reducible refine cT fun _ => ?_ | with_reducible refine cI fun _ => ?_ | with_reducible refine cF ?_ ?_ | with_reducible refine cB fun _ => ?_ | with_reducible refine cL fun _ _ => ?_ | with_reducible refine cO fun _ _ => ?_ | with_reducible refine cN cC fun _ => ?_ | with_reducible exact cR | with_reducible exact cQ) h

noncomputable def T60 (O : Orc) (k m q0 q1 : Nat) (y1 : Int) (y2 : Int) (y3 : Nat) (y4 : List V) (y5 : Nat) (y6 : List V) (y7 : Nat) (y8 : List V) (y9 : Nat) (y10 : List V) (y11 : Int) (y12 : Bool)
 (y13 : Nat) (y14 : List V) (y15 : Int) (y16 : Int) : Option V := need (O.R 0 28 [V.agg [V.int .i64 y1, V.int .i64 y2, V.sl y3 y4, V.sl y5 y6, V.sl y7 y8], V.int .i64 y16]) fun x1 => asTup (some x1)
 fun x2 => PI.asInt .i64 x2[0]? fun x3 => bif decide (x3 < 0) then some (V.tup [V.int .i64 (-1)]) else need (O.R 0 29 [V.sl y9 y10, V.int .i64 x3]) fun x4 => asTup (some x4) fun x5 => PI.asInt .i64
 x5[0]? fun x6 => bif decide (x6 < 0) then some (V.tup [V.int .i64 (-1)]) else need (O.R 0 66 [V.sl y13 y14, V.int .i64 x6]) fun x7 => asTup (some x7) fun x8 => PI.asInt .i64 x8[0]? fun x9 => bif
 decide (x9 < 0) then some (V.tup [V.int .i64 (-1)]) else some (V.tup [V.int .i64 x9])
theorem e60 (k m q0 q1 : Nat) (y1 : Int) (y2 : Int) (y3 : Nat) (y4 : List V) (y5 : Nat) (y6 : List V) (y7 : Nat) (y8 : List V) (y9 : Nat) (y10 : List V) (y11 : Int) (y12 : Bool) (y13 : Nat) (y14 : List
 V) (y15 : Int) (y16 : Int) : runV C (k + 1) 60 [V.agg [V.int .i64 y1, V.int .i64 y2, V.sl y3 y4, V.sl y5 y6, V.sl y7 y8, V.sl y9 y10, V.int .i64 y11, V.bool y12, V.sl y13 y14, V.int .i64 y15], V.int
 .i64 y16] = T60 (orc C k) k m q0 q1 y1 y2 y3 y4 y5 y6 y7 y8 y9 y10 y11 y12 y13 y14 y15 y16 := by kernel_rfl
theorem E60 (y1 : Int) (y2 : Int) (y3 : Nat) (y4 : List V) (y5 : Nat) (y6 : List V) (y7 : Nat) (y8 : List V) (y9 : Nat) (y10 : List V) (y11 : Int) (y12 : Bool) (y13 : Nat) (y14 : List V) (y15 : Int)
 (y16 : Int) {r : V} (h : T60 (orcE C) 0 0 0 0 y1 y2 y3 y4 y5 y6 y7 y8 y9 y10 y11 y12 y13 y14 y15 y16 = some r) : runE C 60 [V.agg [V.int .i64 y1, V.int .i64 y2, V.sl y3 y4, V.sl y5 y6, V.sl y7 y8,
 V.sl y9 y10, V.int .i64 y11, V.bool y12, V.sl y13 y14, V.int .i64 y15], V.int .i64 y16] = some r := ofR (F := fun s => T60 (orc C s.k) s.k s.m 0 0 y1 y2 y3 y4 y5 y6 y7 y8 y9 y10 y11 y12 y13 y14 y15
 y16) (fun k => e60 k k 0 0 y1 y2 y3 y4 y5 y6 y7 y8 y9 y10 y11 y12 y13 y14 y15 y16) (by
  unfold T60
  repeat' first | with_reducible exact cC | with_reducible refine cN cR fun _ => ?_ | with_reducible refine cT fun _ => ?_ | with_reducible refine cI fun _ => ?_ | with_reducible refine cF ?_ ?_ | with_reducible refine cN cC fun _ => ?_ | with_reducible exact cR) h

noncomputable def T28 (O : Orc) (k m q0 q1 : Nat) (y1 : Int) (y2 : Int) (y3 : Nat) (y4 : List V) (y5 : Nat) (y6 : List V) (y7 : Nat) (y8 : List V) (y9 : Int) : Option V := need (O.R 0 115 [V.sl y3 y4,
 V.int .i64 y9]) fun x1 => asTup (some x1) fun x2 => PI.asInt .i64 x2[0]? fun x3 => bif decide (x3 < 0) then some (V.tup [V.int .i64 (-1)]) else need (O.R 0 115 [V.sl y5 y6, V.int .i64 x3]) fun x4 =>
 asTup (some x4) fun x5 => PI.asInt .i64 x5[0]? fun x6 => bif decide (x6 < 0) then some (V.tup [V.int .i64 (-1)]) else need (O.R 0 115 [V.sl y7 y8, V.int .i64 x6]) fun x7 => asTup (some x7) fun x8 =>
 PI.asInt .i64 x8[0]? fun x9 => bif decide (x9 < 0) then some (V.tup [V.int .i64 (-1)]) else some (V.tup [V.int .i64 x9])
theorem e28 (k m q0 q1 : Nat) (y1 : Int) (y2 : Int) (y3 : Nat) (y4 : List V) (y5 : Nat) (y6 : List V) (y7 : Nat) (y8 : List V) (y9 : Int) : runV C (k + 1) 28 [V.agg [V.int .i64 y1, V.int .i64 y2, V.sl
 y3 y4, V.sl y5 y6, V.sl y7 y8], V.int .i64 y9] = T28 (orc C k) k m q0 q1 y1 y2 y3 y4 y5 y6 y7 y8 y9 := by kernel_rfl
theorem E28 (y1 : Int) (y2 : Int) (y3 : Nat) (y4 : List V) (y5 : Nat) (y6 : List V) (y7 : Nat) (y8 : List V) (y9 : Int) {r : V} (h : T28 (orcE C) 0 0 0 0 y1 y2 y3 y4 y5 y6 y7 y8 y9 = some r) : runE C
 28 [V.agg [V.int .i64 y1, V.int .i64 y2, V.sl y3 y4, V.sl y5 y6, V.sl y7 y8], V.int .i64 y9] = some r := ofR (F := fun s => T28 (orc C s.k) s.k s.m 0 0 y1 y2 y3 y4 y5 y6 y7 y8 y9) (fun k => e28 k k 0
 0 y1 y2 y3 y4 y5 y6 y7 y8 y9) (by
  unfold T28
  repeat' first | with_reducible exact cC | with_reducible refine cN cR fun _ => ?_ | with_reducible refine cT fun _ => ?_ | with_reducible refine cI fun _ => ?_ | with_reducible refine cF ?_ ?_ | with_reducible refine cN cC fun _ => ?_ | with_reducible exact cR) h

noncomputable def T29 (O : Orc) (k m q0 q1 : Nat) (y1 : Nat) (y2 : List V) (y3 : Int) : Option V := bif decide (IntKind.i64.wrap (y3 - (↑y1 : Int)) < 0) then some (V.tup [V.int .i64 (-1)]) else O.L 0
 29 0 [true, true, true, false, true] [] k [(0, V.sl y1 y2), (1, V.int .i64 (IntKind.i64.wrap (y3 - (↑y1 : Int)))), (5, V.int .i64 0)] []
theorem e29 (k m q0 q1 : Nat) (y1 : Nat) (y2 : List V) (y3 : Int) : runV C (k + 1) 29 [V.sl y1 y2, V.int .i64 y3] = T29 (orc C k) k m q0 q1 y1 y2 y3 := by kernel_rfl
theorem E29 (y1 : Nat) (y2 : List V) (y3 : Int) {r : V} (h : T29 (orcE C) 0 0 0 0 y1 y2 y3 = some r) : runE C 29 [V.sl y1 y2, V.int .i64 y3] = some r := ofR (F := fun s => T29 (orc C s.k) s.k s.m 0 0
 y1 y2 y3) (fun k => e29 k k 0 0 y1 y2 y3) (by
  unfold T29
  repeat' first | with_reducible exact cC | with_reducible refine cF ?_ ?_ | exact cD0 gK) h

noncomputable def T62 (O : Orc) (k m q0 q1 : Nat) (y1 : Int) (y2 : Int) (y3 : Nat) (y4 : List V) (y5 : Nat) (y6 : List V) (y7 : Nat) (y8 : List V) (y9 : Nat) (y10 : List V) (y11 : Int) (y12 : Bool)
 (y13 : Nat) (y14 : List V) (y15 : Int) : Option V := need (O.R 0 31 [V.agg [V.int .i64 y1, V.int .i64 y2, V.sl y3 y4, V.sl y5 y6, V.sl y7 y8]]) fun x1 => asTup (some x1) fun x2 => PI.asInt .i64 x2[0]?
 fun x3 => PI.asInt .i64 x2[1]? fun x4 => asOsl x2[2]? fun x5 x6 => asOsl x2[3]? fun x7 x8 => asOsl x2[4]? fun x9 x10 => need (O.R 0 32 [V.sl y9 y10]) fun x11 => asTup (some x11) fun x12 => asOsl
 x12[0]? fun x13 x14 => need (O.R 0 67 [V.sl y13 y14]) fun x15 => asTup (some x15) fun x16 => asOsl x16[0]? fun x17 x18 => must (false || x6.all flatV) (must (false || x8.all flatV) (must (false ||
 x10.all flatV) (some (V.tup [V.int .i64 x3, V.int .i64 x4, V.osl x5 x6, V.osl x7 x8, V.osl x9 x10, V.osl x13 x14, V.int .i64 y11, V.bool y12, V.osl x17 x18, V.int .i64 y15]))))
theorem e62 (k m q0 q1 : Nat) (y1 : Int) (y2 : Int) (y3 : Nat) (y4 : List V) (y5 : Nat) (y6 : List V) (y7 : Nat) (y8 : List V) (y9 : Nat) (y10 : List V) (y11 : Int) (y12 : Bool) (y13 : Nat) (y14 : List
 V) (y15 : Int) : runV C (k + 1) 62 [V.agg [V.int .i64 y1, V.int .i64 y2, V.sl y3 y4, V.sl y5 y6, V.sl y7 y8, V.sl y9 y10, V.int .i64 y11, V.bool y12, V.sl y13 y14, V.int .i64 y15]] = T62 (orc C k) k m
 q0 q1 y1 y2 y3 y4 y5 y6 y7 y8 y9 y10 y11 y12 y13 y14 y15 := by kernel_rfl
theorem E62 (y1 : Int) (y2 : Int) (y3 : Nat) (y4 : List V) (y5 : Nat) (y6 : List V) (y7 : Nat) (y8 : List V) (y9 : Nat) (y10 : List V) (y11 : Int) (y12 : Bool) (y13 : Nat) (y14 : List V) (y15 : Int) {r
 : V} (h : T62 (orcE C) 0 0 0 0 y1 y2 y3 y4 y5 y6 y7 y8 y9 y10 y11 y12 y13 y14 y15 = some r) : runE C 62 [V.agg [V.int .i64 y1, V.int .i64 y2, V.sl y3 y4, V.sl y5 y6, V.sl y7 y8, V.sl y9 y10, V.int
 .i64 y11, V.bool y12, V.sl y13 y14, V.int .i64 y15]] = some r := ofR (F := fun s => T62 (orc C s.k) s.k s.m 0 0 y1 y2 y3 y4 y5 y6 y7 y8 y9 y10 y11 y12 y13 y14 y15) (fun k => e62 k k 0 0 y1 y2 y3 y4 y5
 y6 y7 y8 y9 y10 y11 y12 y13 y14 y15) (by
  unfold T62
  repeat' first | with_reducible exact cC | with_reducible refine cN cR fun _ => ?_ | with_reducible refine cT fun _ => ?_ | with_reducible refine cI fun _ => ?_ | with_reducible refine cM ?_ | with_reducible refine cO fun _ _ => ?_ | with_reducible refine cN cC fun _ => ?_ | with_reducible exact cR) h

noncomputable def T31 (O : Orc) (k m q0 q1 : Nat) (y1 : Int) (y2 : Int) (y3 : Nat) (y4 : List V) (y5 : Nat) (y6 : List V) (y7 : Nat) (y8 : List V) : Option V := need (O.R 0 119 [V.sl y3 y4]) fun x1 =>
 asTup (some x1) fun x2 => asOsl x2[0]? fun x3 x4 => need (O.R 0 119 [V.sl y5 y6]) fun x5 => asTup (some x5) fun x6 => asOsl x6[0]? fun x7 x8 => need (O.R 0 119 [V.sl y7 y8]) fun x9 => asTup (some x9)
 fun x10 => asOsl x10[0]? fun x11 x12 => must (false || x4.all flatV) (must (false || x8.all flatV) (must (false || x12.all flatV) (some (V.tup [V.int .i64 y1, V.int .i64 y2, V.osl x3 x4, V.osl x7 x8,
 V.osl x11 x12]))))
theorem e31 (k m q0 q1 : Nat) (y1 : Int) (y2 : Int) (y3 : Nat) (y4 : List V) (y5 : Nat) (y6 : List V) (y7 : Nat) (y8 : List V) : runV C (k + 1) 31 [V.agg [V.int .i64 y1, V.int .i64 y2, V.sl y3 y4, V.sl
 y5 y6, V.sl y7 y8]] = T31 (orc C k) k m q0 q1 y1 y2 y3 y4 y5 y6 y7 y8 := by kernel_rfl
theorem E31 (y1 : Int) (y2 : Int) (y3 : Nat) (y4 : List V) (y5 : Nat) (y6 : List V) (y7 : Nat) (y8 : List V) {r : V} (h : T31 (orcE C) 0 0 0 0 y1 y2 y3 y4 y5 y6 y7 y8 = some r) : runE C 31 [V.agg
 [V.int .i64 y1, V.int .i64 y2, V.sl y3 y4, V.sl y5 y6, V.sl y7 y8]] = some r := ofR (F := fun s => T31 (orc C s.k) s.k s.m 0 0 y1 y2 y3 y4 y5 y6 y7 y8) (fun k => e31 k k 0 0 y1 y2 y3 y4 y5 y6 y7 y8) (by
  unfold T31
  repeat' first | with_reducible exact cC | with_reducible refine cN cR fun _ => ?_ | with_reducible refine cT fun _ => ?_ | with_reducible refine cM ?_ | with_reducible refine cO fun _ _ => ?_ | with_reducible refine cN cC fun _ => ?_ | with_reducible exact cR) h

noncomputable def T32 (O : Orc) (k m q0 q1 : Nat) (y1 : Nat) (y2 : List V) : Option V := must (decide ((↑y1 : Int) = (↑y1 : Int)) && decide (0 ≤ (↑y1 : Int)) && decide ((↑y1 : Int) ≤ 140737488355328)
 && decide ((↑y1 : Int) * 32 ≤ 140737488355328)) (O.L 0 32 0 [true, true, false, true] [] k [(0, V.sl y1 y2), (3, V.ref 0), (4, V.int .i64 0)] [Ob.nrow [] 103 (↑y1 : Int).toNat (reps (↑y1 : Int).toNat
 [V.nilsl, V.int .i64 0])])
theorem e32 (k m q0 q1 : Nat) (y1 : Nat) (y2 : List V) : runV C (k + 1) 32 [V.sl y1 y2] = T32 (orc C k) k m q0 q1 y1 y2 := by kernel_rfl
theorem E32 (y1 : Nat) (y2 : List V) {r : V} (h : T32 (orcE C) 0 0 0 0 y1 y2 = some r) : runE C 32 [V.sl y1 y2] = some r := ofR (F := fun s => T32 (orc C s.k) s.k s.m 0 0 y1 y2) (fun k => e32 k k 0 0
 y1 y2) (by
  unfold T32
  repeat' first | with_reducible exact cC | with_reducible refine cM ?_ | exact cD0 gK) h

noncomputable def T61 (O : Orc) (k m q0 q1 : Nat) (y1 : Int) (y2 : Int) (y3 : Nat) (y4 : List V) (y5 : Nat) (y6 : List V) (y7 : Nat) (y8 : List V) (y9 : Nat) (y10 : List V) (y11 : Int) (y12 : Bool)
 (y13 : Nat) (y14 : List V) (y15 : Int) (y16 : Int) (y17 : Int) (y18 : Nat) (y19 : List V) (y20 : Nat) (y21 : List V) (y22 : Nat) (y23 : List V) (y24 : Nat) (y25 : List V) : Option V := need (O.R 0 117
 [V.agg [V.int .i64 y1, V.int .i64 y2, V.sl y3 y4, V.sl y5 y6, V.sl y7 y8, V.sl y9 y10, V.int .i64 y11, V.bool y12, V.sl y13 y14, V.int .i64 y15]]) fun x1 => asTup (some x1) fun x2 => PI.asInt .i64
 x2[0]? fun x3 => bif x3 != 0 then some (V.tup [V.int .i64 x3, V.int .i64 0, V.int .i64 0, V.sl 0 [], V.sl 0 [], V.sl 0 [], V.sl 0 [], V.int .i64 0, V.bool false, V.sl 0 [], V.int .i64 0]) else bif
 !y12 then some (V.tup [V.int .i64 1, V.int .i64 0, V.int .i64 0, V.sl 0 [], V.sl 0 [], V.sl 0 [], V.sl 0 [], V.int .i64 0, V.bool false, V.sl 0 [], V.int .i64 0]) else bif decide (y16 ≤ y1) then some
 (V.tup [V.int .i64 3, V.int .i64 0, V.int .i64 0, V.sl 0 [], V.sl 0 [], V.sl 0 [], V.sl 0 [], V.int .i64 0, V.bool false, V.sl 0 [], V.int .i64 0]) else need (O.R 0 30 [V.agg [V.int .i64 y16, V.int
 .i64 y17, V.sl y18 y19, V.sl y20 y21, V.sl y22 y23], V.sl y24 y25, V.int .i64 y11]) fun x4 => asTup (some x4) fun x5 => PI.asInt .i64 x5[0]? fun x6 => PI.asInt .i64 x5[1]? fun x7 => PI.asInt .i64
 x5[2]? fun x8 => asSl x5[3]? fun x9 x10 => asSl x5[4]? fun x11 x12 => asSl x5[5]? fun x13 x14 => asSl x5[6]? fun x15 x16 => PI.asInt .i64 x5[7]? fun x17 => PI.asBool x5[8]? fun x18 => asSl x5[9]? fun
 x19 x20 => PI.asInt .i64 x5[10]? fun x21 => some (V.tup [V.int .i64 x6, V.int .i64 x7, V.int .i64 x8, V.sl x9 x10, V.sl x11 x12, V.sl x13 x14, V.sl x15 x16, V.int .i64 x17, V.bool x18, V.sl x19 x20,
 V.int .i64 x21])
theorem e61 (k m q0 q1 : Nat) (y1 : Int) (y2 : Int) (y3 : Nat) (y4 : List V) (y5 : Nat) (y6 : List V) (y7 : Nat) (y8 : List V) (y9 : Nat) (y10 : List V) (y11 : Int) (y12 : Bool) (y13 : Nat) (y14 : List
 V) (y15 : Int) (y16 : Int) (y17 : Int) (y18 : Nat) (y19 : List V) (y20 : Nat) (y21 : List V) (y22 : Nat) (y23 : List V) (y24 : Nat) (y25 : List V) : runV C (k + 1) 61 [V.agg [V.int .i64 y1, V.int .i64
 y2, V.sl y3 y4, V.sl y5 y6, V.sl y7 y8, V.sl y9 y10, V.int .i64 y11, V.bool y12, V.sl y13 y14, V.int .i64 y15], V.agg [V.int .i64 y16, V.int .i64 y17, V.sl y18 y19, V.sl y20 y21, V.sl y22 y23], V.sl
 y24 y25] = T61 (orc C k) k m q0 q1 y1 y2 y3 y4 y5 y6 y7 y8 y9 y10 y11 y12 y13 y14 y15 y16 y17 y18 y19 y20 y21 y22 y23 y24 y25 := by kernel_rfl
theorem E61 (y1 : Int) (y2 : Int) (y3 : Nat) (y4 : List V) (y5 : Nat) (y6 : List V) (y7 : Nat) (y8 : List V) (y9 : Nat) (y10 : List V) (y11 : Int) (y12 : Bool) (y13 : Nat) (y14 : List V) (y15 : Int)
 (y16 : Int) (y17 : Int) (y18 : Nat) (y19 : List V) (y20 : Nat) (y21 : List V) (y22 : Nat) (y23 : List V) (y24 : Nat) (y25 : List V) {r : V} (h : T61 (orcE C) 0 0 0 0 y1 y2 y3 y4 y5 y6 y7 y8 y9 y10 y11
 y12 y13 y14 y15 y16 y17 y18 y19 y20 y21 y22 y23 y24 y25 = some r) : runE C 61 [V.agg [V.int .i64 y1, V.int .i64 y2, V.sl y3 y4, V.sl y5 y6, V.sl y7 y8, V.sl y9 y10, V.int .i64 y11, V.bool y12, V.sl
 y13 y14, V.int .i64 y15], V.agg [V.int .i64 y16, V.int .i64 y17, V.sl y18 y19, V.sl y20 y21, V.sl y22 y23], V.sl y24 y25] = some r := ofR (F := fun s => T61 (orc C s.k) s.k s.m 0 0 y1 y2 y3 y4 y5 y6
 y7 y8 y9 y10 y11 y12 y13 y14 y15 y16 y17 y18 y19 y20 y21 y22 y23 y24 y25) (fun k => e61 k k 0 0 y1 y2 y3 y4 y5 y6 y7 y8 y9 y10 y11 y12 y13 y14 y15 y16 y17 y18 y19 y20 y21 y22 y23 y24 y25) (by
  unfold T61
  repeat' first | with_reducible exact cC | with_reducible refine cN cR fun _ => ?_ | with_reducible refine cT fun _ => ?_ | with_reducible refine cI fun _ => ?_ | with_reducible refine cF ?_ ?_ | with_reducible refine cB fun _ => ?_ | with_reducible refine cL fun _ _ => ?_ | with_reducible refine cN cC fun _ => ?_ | with_reducible exact cR) h

noncomputable def T63 (O : Orc) (k m q0 q1 : Nat) (y1 : Int) (y2 : Int) (y3 : Nat) (y4 : List V) (y5 : Nat) (y6 : List V) (y7 : Nat) (y8 : List V) (y9 : Nat) (y10 : List V) (y11 : Int) (y12 : Bool)
 (y13 : Nat) (y14 : List V) (y15 : Int) (y16 : Int) (y17 : Int) (y18 : Nat) (y19 : List V) (y20 : Nat) (y21 : List V) (y22 : Nat) (y23 : List V) (y24 : Nat) (y25 : List V) : Option V := need (O.R 0 121
 [V.agg [V.int .i64 y1, V.int .i64 y2, V.sl y3 y4, V.sl y5 y6, V.sl y7 y8, V.sl y9 y10, V.int .i64 y11, V.bool y12, V.sl y13 y14, V.int .i64 y15]]) fun x1 => asTup (some x1) fun x2 => PI.asInt .i64
 x2[0]? fun x3 => bif x3 != 0 then some (V.tup [V.int .i64 x3, V.int .i64 0, V.int .i64 0, V.osl 0 [], V.osl 0 [], V.osl 0 [], V.osl 0 [], V.int .i64 0, V.bool false, V.osl 0 [], V.int .i64 0]) else
 bif !y12 then some (V.tup [V.int .i64 1, V.int .i64 0, V.int .i64 0, V.osl 0 [], V.osl 0 [], V.osl 0 [], V.osl 0 [], V.int .i64 0, V.bool false, V.osl 0 [], V.int .i64 0]) else bif decide (y16 ≤ y1)
 then some (V.tup [V.int .i64 3, V.int .i64 0, V.int .i64 0, V.osl 0 [], V.osl 0 [], V.osl 0 [], V.osl 0 [], V.int .i64 0, V.bool false, V.osl 0 [], V.int .i64 0]) else need (O.R 0 33 [V.agg [V.int
 .i64 y16, V.int .i64 y17, V.sl y18 y19, V.sl y20 y21, V.sl y22 y23], V.sl y24 y25, V.int .i64 y11]) fun x4 => asTup (some x4) fun x5 => PI.asInt .i64 x5[0]? fun x6 => PI.asInt .i64 x5[1]? fun x7 =>
 PI.asInt .i64 x5[2]? fun x8 => asOsl x5[3]? fun x9 x10 => asOsl x5[4]? fun x11 x12 => asOsl x5[5]? fun x13 x14 => asOsl x5[6]? fun x15 x16 => PI.asInt .i64 x5[7]? fun x17 => PI.asBool x5[8]? fun x18
 => asOsl x5[9]? fun x19 x20 => PI.asInt .i64 x5[10]? fun x21 => must (false || x10.all flatV) (must (false || x12.all flatV) (must (false || x14.all flatV) (some (V.tup [V.int .i64 x6, V.int .i64 x7,
 V.int .i64 x8, V.osl x9 x10, V.osl x11 x12, V.osl x13 x14, V.osl x15 x16, V.int .i64 x17, V.bool x18, V.osl x19 x20, V.int .i64 x21]))))
theorem e63 (k m q0 q1 : Nat) (y1 : Int) (y2 : Int) (y3 : Nat) (y4 : List V) (y5 : Nat) (y6 : List V) (y7 : Nat) (y8 : List V) (y9 : Nat) (y10 : List V) (y11 : Int) (y12 : Bool) (y13 : Nat) (y14 : List
 V) (y15 : Int) (y16 : Int) (y17 : Int) (y18 : Nat) (y19 : List V) (y20 : Nat) (y21 : List V) (y22 : Nat) (y23 : List V) (y24 : Nat) (y25 : List V) : runV C (k + 1) 63 [V.agg [V.int .i64 y1, V.int .i64
 y2, V.sl y3 y4, V.sl y5 y6, V.sl y7 y8, V.sl y9 y10, V.int .i64 y11, V.bool y12, V.sl y13 y14, V.int .i64 y15], V.agg [V.int .i64 y16, V.int .i64 y17, V.sl y18 y19, V.sl y20 y21, V.sl y22 y23], V.sl
 y24 y25] = T63 (orc C k) k m q0 q1 y1 y2 y3 y4 y5 y6 y7 y8 y9 y10 y11 y12 y13 y14 y15 y16 y17 y18 y19 y20 y21 y22 y23 y24 y25 := by kernel_rfl
theorem E63 (y1 : Int) (y2 : Int) (y3 : Nat) (y4 : List V) (y5 : Nat) (y6 : List V) (y7 : Nat) (y8 : List V) (y9 : Nat) (y10 : List V) (y11 : Int) (y12 : Bool) (y13 : Nat) (y14 : List V) (y15 : Int)
 (y16 : Int) (y17 : Int) (y18 : Nat) (y19 : List V) (y20 : Nat) (y21 : List V) (y22 : Nat) (y23 : List V) (y24 : Nat) (y25 : List V) {r : V} (h : T63 (orcE C) 0 0 0 0 y1 y2 y3 y4 y5 y6 y7 y8 y9 y10 y11
 y12 y13 y14 y15 y16 y17 y18 y19 y20 y21 y22 y23 y24 y25 = some r) : runE C 63 [V.agg [V.int .i64 y1, V.int .i64 y2, V.sl y3 y4, V.sl y5 y6, V.sl y7 y8, V.sl y9 y10, V.int .i64 y11, V.bool y12, V.sl
 y13 y14, V.int .i64 y15], V.agg [V.int .i64 y16, V.int .i64 y17, V.sl y18 y19, V.sl y20 y21, V.sl y22 y23], V.sl y24 y25] = some r := ofR (F := fun s => T63 (orc C s.k) s.k s.m 0 0 y1 y2 y3 y4 y5 y6
 y7 y8 y9 y10 y11 y12 y13 y14 y15 y16 y17 y18 y19 y20 y21 y22 y23 y24 y25) (fun k => e63 k k 0 0 y1 y2 y3 y4 y5 y6 y7 y8 y9 y10 y11 y12 y13 y14 y15 y16 y17 y18 y19 y20 y21 y22 y23 y24 y25) (by
  unfold T63
  repeat' first | with_reducible exact cC | with_reducible refine cN cR fun _ => ?_ | with_reducible refine cT fun _ => ?_ | with_reducible refine cI fun _ => ?_ | with_reducible refine cM ?_ | with_reducible refine cF ?_ ?_ | with_reducible refine cB fun _ => ?_ | with_reducible refine cO fun _ _ => ?_ | with_reducible refine cN cC fun _ => ?_ | with_reducible exact cR) h

noncomputable def T34 (O : Orc) (k m q0 q1 : Nat) (y1 : Int) (y2 : Int) (y3 : Int) (y4 : Nat) (y5 : List V) (y6 : Nat) (y7 : List V) (y8 : Nat) (y9 : List V) (y10 : Nat) (y11 : List V) (y12 : Int) (y13
 : Bool) (y14 : Nat) (y15 : List V) (y16 : Int) (y17 : Int) (y18 : Int) (y19 : Int) (y20 : Nat) (y21 : List V) (y22 : Nat) (y23 : List V) (y24 : Nat) (y25 : List V) (y26 : Nat) (y27 : List V) (y28 :
 Int) (y29 : Bool) (y30 : Nat) (y31 : List V) (y32 : Int) : Option V := bif y1 != y17 then some (V.tup [V.bool false]) else need (O.R 0 64 [V.agg [V.int .i64 y2, V.int .i64 y3, V.sl y4 y5, V.sl y6 y7,
 V.sl y8 y9, V.sl y10 y11, V.int .i64 y12, V.bool y13, V.sl y14 y15, V.int .i64 y16], V.agg [V.int .i64 y18, V.int .i64 y19, V.sl y20 y21, V.sl y22 y23, V.sl y24 y25, V.sl y26 y27, V.int .i64 y28,
 V.bool y29, V.sl y30 y31, V.int .i64 y32]]) fun x1 => asTup (some x1) fun x2 => PI.asBool x2[0]? fun x3 => bif !x3 then some (V.tup [V.bool false]) else some (V.tup [V.bool true])
theorem e34 (k m q0 q1 : Nat) (y1 : Int) (y2 : Int) (y3 : Int) (y4 : Nat) (y5 : List V) (y6 : Nat) (y7 : List V) (y8 : Nat) (y9 : List V) (y10 : Nat) (y11 : List V) (y12 : Int) (y13 : Bool) (y14 : Nat)
 (y15 : List V) (y16 : Int) (y17 : Int) (y18 : Int) (y19 : Int) (y20 : Nat) (y21 : List V) (y22 : Nat) (y23 : List V) (y24 : Nat) (y25 : List V) (y26 : Nat) (y27 : List V) (y28 : Int) (y29 : Bool) (y30
 : Nat) (y31 : List V) (y32 : Int) : runV C (k + 1) 34 [V.agg [V.int .i64 y1, V.int .i64 y2, V.int .i64 y3, V.sl y4 y5, V.sl y6 y7, V.sl y8 y9, V.sl y10 y11, V.int .i64 y12, V.bool y13, V.sl y14 y15,
 V.int .i64 y16], V.agg [V.int .i64 y17, V.int .i64 y18, V.int .i64 y19, V.sl y20 y21, V.sl y22 y23, V.sl y24 y25, V.sl y26 y27, V.int .i64 y28, V.bool y29, V.sl y30 y31, V.int .i64 y32]] = T34 (orc C
 k) k m q0 q1 y1 y2 y3 y4 y5 y6 y7 y8 y9 y10 y11 y12 y13 y14 y15 y16 y17 y18 y19 y20 y21 y22 y23 y24 y25 y26 y27 y28 y29 y30 y31 y32 := by kernel_rfl
theorem E34 (y1 : Int) (y2 : Int) (y3 : Int) (y4 : Nat) (y5 : List V) (y6 : Nat) (y7 : List V) (y8 : Nat) (y9 : List V) (y10 : Nat) (y11 : List V) (y12 : Int) (y13 : Bool) (y14 : Nat) (y15 : List V)
 (y16 : Int) (y17 : Int) (y18 : Int) (y19 : Int) (y20 : Nat) (y21 : List V) (y22 : Nat) (y23 : List V) (y24 : Nat) (y25 : List V) (y26 : Nat) (y27 : List V) (y28 : Int) (y29 : Bool) (y30 : Nat) (y31 :
 List V) (y32 : Int) {r : V} (h : T34 (orcE C) 0 0 0 0 y1 y2 y3 y4 y5 y6 y7 y8 y9 y10 y11 y12 y13 y14 y15 y16 y17 y18 y19 y20 y21 y22 y23 y24 y25 y26 y27 y28 y29 y30 y31 y32 = some r) : runE C 34
 [V.agg [V.int .i64 y1, V.int .i64 y2, V.int .i64 y3, V.sl y4 y5, V.sl y6 y7, V.sl y8 y9, V.sl y10 y11, V.int .i64 y12, V.bool y13, V.sl y14 y15, V.int .i64 y16], V.agg [V.int .i64 y17, V.int .i64 y18,
 V.int .i64 y19, V.sl y20 y21, V.sl y22 y23, V.sl y24 y25, V.sl y26 y27, V.int .i64 y28, V.bool y29, V.sl y30 y31, V.int .i64 y32]] = some r := ofR (F := fun s => T34 (orc C s.k) s.k s.m 0 0 y1 y2 y3
 y4 y5 y6 y7 y8 y9 y10 y11 y12 y13 y14 y15 y16 y17 y18 y19 y20 y21 y22 y23 y24 y25 y26 y27 y28 y29 y30 y31 y32) (fun k => e34 k k 0 0 y1 y2 y3 y4 y5 y6 y7 y8 y9 y10 y11 y12 y13 y14 y15 y16 y17 y18 y19
 y20 y21 y22 y23 y24 y25 y26 y27 y28 y29 y30 y31 y32) (by
  unfold T34
  repeat' first | with_reducible exact cC | with_reducible refine cN cR fun _ => ?_ | with_reducible refine cT fun _ => ?_ | with_reducible refine cF ?_ ?_ | with_reducible refine cB fun _ => ?_ | with_reducible refine cN cC fun _ => ?_ | with_reducible exact cR) h

noncomputable def T64 (O : Orc) (k m q0 q1 : Nat) (y1 : Int) (y2 : Int) (y3 : Nat) (y4 : List V) (y5 : Nat) (y6 : List V) (y7 : Nat) (y8 : List V) (y9 : Nat) (y10 : List V) (y11 : Int) (y12 : Bool)
 (y13 : Nat) (y14 : List V) (y15 : Int) (y16 : Int) (y17 : Int) (y18 : Nat) (y19 : List V) (y20 : Nat) (y21 : List V) (y22 : Nat) (y23 : List V) (y24 : Nat) (y25 : List V) (y26 : Int) (y27 : Bool) (y28
 : Nat) (y29 : List V) (y30 : Int) : Option V := need (O.R 0 35 [V.agg [V.int .i64 y1, V.int .i64 y2, V.sl y3 y4, V.sl y5 y6, V.sl y7 y8], V.agg [V.int .i64 y16, V.int .i64 y17, V.sl y18 y19, V.sl y20
 y21, V.sl y22 y23]]) fun x1 => asTup (some x1) fun x2 => PI.asBool x2[0]? fun x3 => bif !x3 then some (V.tup [V.bool false]) else need (O.R 0 36 [V.sl y9 y10, V.sl y24 y25]) fun x4 => asTup (some x4)
 fun x5 => PI.asBool x5[0]? fun x6 => bif !x6 then some (V.tup [V.bool false]) else bif y11 != y26 then some (V.tup [V.bool false]) else bif !y12 == y27 then some (V.tup [V.bool false]) else need (O.R
 0 70 [V.sl y13 y14, V.sl y28 y29]) fun x7 => asTup (some x7) fun x8 => PI.asBool x8[0]? fun x9 => bif !x9 then some (V.tup [V.bool false]) else bif y15 != y30 then some (V.tup [V.bool false]) else
 some (V.tup [V.bool true])
theorem e64 (k m q0 q1 : Nat) (y1 : Int) (y2 : Int) (y3 : Nat) (y4 : List V) (y5 : Nat) (y6 : List V) (y7 : Nat) (y8 : List V) (y9 : Nat) (y10 : List V) (y11 : Int) (y12 : Bool) (y13 : Nat) (y14 : List
 V) (y15 : Int) (y16 : Int) (y17 : Int) (y18 : Nat) (y19 : List V) (y20 : Nat) (y21 : List V) (y22 : Nat) (y23 : List V) (y24 : Nat) (y25 : List V) (y26 : Int) (y27 : Bool) (y28 : Nat) (y29 : List V)
 (y30 : Int) : runV C (k + 1) 64 [V.agg [V.int .i64 y1, V.int .i64 y2, V.sl y3 y4, V.sl y5 y6, V.sl y7 y8, V.sl y9 y10, V.int .i64 y11, V.bool y12, V.sl y13 y14, V.int .i64 y15], V.agg [V.int .i64 y16,
 V.int .i64 y17, V.sl y18 y19, V.sl y20 y21, V.sl y22 y23, V.sl y24 y25, V.int .i64 y26, V.bool y27, V.sl y28 y29, V.int .i64 y30]] = T64 (orc C k) k m q0 q1 y1 y2 y3 y4 y5 y6 y7 y8 y9 y10 y11 y12 y13
 y14 y15 y16 y17 y18 y19 y20 y21 y22 y23 y24 y25 y26 y27 y28 y29 y30 := by kernel_rfl
theorem E64 (y1 : Int) (y2 : Int) (y3 : Nat) (y4 : List V) (y5 : Nat) (y6 : List V) (y7 : Nat) (y8 : List V) (y9 : Nat) (y10 : List V) (y11 : Int) (y12 : Bool) (y13 : Nat) (y14 : List V) (y15 : Int)
 (y16 : Int) (y17 : Int) (y18 : Nat) (y19 : List V) (y20 : Nat) (y21 : List V) (y22 : Nat) (y23 : List V) (y24 : Nat) (y25 : List V) (y26 : Int) (y27 : Bool) (y28 : Nat) (y29 : List V) (y30 : Int) {r :
 V} (h : T64 (orcE C) 0 0 0 0 y1 y2 y3 y4 y5 y6 y7 y8 y9 y10 y11 y12 y13 y14 y15 y16 y17 y18 y19 y20 y21 y22 y23 y24 y25 y26 y27 y28 y29 y30 = some r) : runE C 64 [V.agg [V.int .i64 y1, V.int .i64 y2,
 V.sl y3 y4, V.sl y5 y6, V.sl y7 y8, V.sl y9 y10, V.int .i64 y11, V.bool y12, V.sl y13 y14, V.int .i64 y15], V.agg [V.int .i64 y16, V.int .i64 y17, V.sl y18 y19, V.sl y20 y21, V.sl y22 y23, V.sl y24
 y25, V.int .i64 y26, V.bool y27, V.sl y28 y29, V.int .i64 y30]] = some r := ofR (F := fun s => T64 (orc C s.k) s.k s.m 0 0 y1 y2 y3 y4 y5 y6 y7 y8 y9 y10 y11 y12 y13 y14 y15 y16 y17 y18 y19 y20 y21
 y22 y23 y24 y25 y26 y27 y28 y29 y30) (fun k => e64 k k 0 0 y1 y2 y3 y4 y5 y6 y7 y8 y9 y10 y11 y12 y13 y14 y15 y16 y17 y18 y19 y20 y21 y22 y23 y24 y25 y26 y27 y28 y29 y30) (by
  unfold T64
  repeat' first | with_reducible exact cC | with_reducible refine cN cR fun _ => ?_ | with_reducible refine cT fun _ => ?_ | with_reducible refine cF ?_ ?_ | with_reducible refine cB fun _ => ?_ | with_reducible refine cN cC fun _ => ?_ | with_reducible exact cR) h

noncomputable def T35 (O : Orc) (k m q0 q1 : Nat) (y1 : Int) (y2 : Int) (y3 : Nat) (y4 : List V) (y5 : Nat) (y6 : List V) (y7 : Nat) (y8 : List V) (y9 : Int) (y10 : Int) (y11 : Nat) (y12 : List V) (y13
 : Nat) (y14 : List V) (y15 : Nat) (y16 : List V) : Option V := bif y1 != y9 then some (V.tup [V.bool false]) else bif y2 != y10 then some (V.tup [V.bool false]) else need (O.R 0 123 [V.sl y3 y4, V.sl
 y11 y12]) fun x1 => asTup (some x1) fun x2 => PI.asBool x2[0]? fun x3 => bif !x3 then some (V.tup [V.bool false]) else need (O.R 0 123 [V.sl y5 y6, V.sl y13 y14]) fun x4 => asTup (some x4) fun x5 =>
 PI.asBool x5[0]? fun x6 => bif !x6 then some (V.tup [V.bool false]) else need (O.R 0 123 [V.sl y7 y8, V.sl y15 y16]) fun x7 => asTup (some x7) fun x8 => PI.asBool x8[0]? fun x9 => bif !x9 then some
 (V.tup [V.bool false]) else some (V.tup [V.bool true])
theorem e35 (k m q0 q1 : Nat) (y1 : Int) (y2 : Int) (y3 : Nat) (y4 : List V) (y5 : Nat) (y6 : List V) (y7 : Nat) (y8 : List V) (y9 : Int) (y10 : Int) (y11 : Nat) (y12 : List V) (y13 : Nat) (y14 : List
 V) (y15 : Nat) (y16 : List V) : runV C (k + 1) 35 [V.agg [V.int .i64 y1, V.int .i64 y2, V.sl y3 y4, V.sl y5 y6, V.sl y7 y8], V.agg [V.int .i64 y9, V.int .i64 y10, V.sl y11 y12, V.sl y13 y14, V.sl y15
 y16]] = T35 (orc C k) k m q0 q1 y1 y2 y3 y4 y5 y6 y7 y8 y9 y10 y11 y12 y13 y14 y15 y16 := by kernel_rfl
theorem E35 (y1 : Int) (y2 : Int) (y3 : Nat) (y4 : List V) (y5 : Nat) (y6 : List V) (y7 : Nat) (y8 : List V) (y9 : Int) (y10 : Int) (y11 : Nat) (y12 : List V) (y13 : Nat) (y14 : List V) (y15 : Nat)
 (y16 : List V) {r : V} (h : T35 (orcE C) 0 0 0 0 y1 y2 y3 y4 y5 y6 y7 y8 y9 y10 y11 y12 y13 y14 y15 y16 = some r) : runE C 35 [V.agg [V.int .i64 y1, V.int .i64 y2, V.sl y3 y4, V.sl y5 y6, V.sl y7 y8],
 V.agg [V.int .i64 y9, V.int .i64 y10, V.sl y11 y12, V.sl y13 y14, V.sl y15 y16]] = some r := ofR (F := fun s => T35 (orc C s.k) s.k s.m 0 0 y1 y2 y3 y4 y5 y6 y7 y8 y9 y10 y11 y12 y13 y14 y15 y16) (fun
 k => e35 k k 0 0 y1 y2 y3 y4 y5 y6 y7 y8 y9 y10 y11 y12 y13 y14 y15 y16) (by
  unfold T35
  repeat' first | with_reducible exact cC | with_reducible refine cN cR fun _ => ?_ | with_reducible refine cT fun _ => ?_ | with_reducible refine cF ?_ ?_ | with_reducible refine cB fun _ => ?_ | with_reducible refine cN cC fun _ => ?_ | with_reducible exact cR) h

noncomputable def T36 (O : Orc) (k m q0 q1 : Nat) (y1 : Nat) (y2 : List V) (y3 : Nat) (y4 : List V) : Option V := bif (↑y1 : Int) != (↑y3 : Int) then some (V.tup [V.bool false]) else O.L 0 36 0 [true,
 true, false, true] [] k [(0, V.sl y1 y2), (1, V.sl y3 y4), (5, V.int .i64 0)] []
theorem e36 (k m q0 q1 : Nat) (y1 : Nat) (y2 : List V) (y3 : Nat) (y4 : List V) : runV C (k + 1) 36 [V.sl y1 y2, V.sl y3 y4] = T36 (orc C k) k m q0 q1 y1 y2 y3 y4 := by kernel_rfl
theorem E36 (y1 : Nat) (y2 : List V) (y3 : Nat) (y4 : List V) {r : V} (h : T36 (orcE C) 0 0 0 0 y1 y2 y3 y4 = some r) : runE C 36 [V.sl y1 y2, V.sl y3 y4] = some r := ofR (F := fun s => T36 (orc C s.k)
 s.k s.m 0 0 y1 y2 y3 y4) (fun k => e36 k k 0 0 y1 y2 y3 y4) (by
  unfold T36
  repeat' first | with_reducible exact cC | with_reducible refine cF ?_ ?_ | exact cD0 gK) h

noncomputable def T65 (O : Orc) (k m q0 q1 : Nat) (y1 : Int) (y2 : Int) (y3 : Int) (y4 : Bool) (y5 : Int) (y6 : Int) (y7 : Nat) (y8 : List V) (y9 : Nat) (y10 : List V) (y11 : Nat) (y12 : List V) (y13 :
 Nat) (y14 : List V) (y15 : Nat) (y16 : List V) : Option V := need (O.W 0 37 [0, 1, 2] [V.agg [V.int .i64 y1, V.int .i64 y2, V.ref 0, V.ref 1, V.ref 2], V.int .i64 y6] [Ob.row 5 y7 y8 false, Ob.row 5
 y9 y10 false, Ob.row 5 y11 y12 false]) fun x1 => asTup (some x1) fun x2 => PI.asInt .i64 x2[0]? fun x3 => asOsl x2[1]? fun x4 x5 => asOsl x2[2]? fun x6 x7 => asOsl x2[3]? fun x8 x9 => need (O.W 0 38
 [0] [V.ref 0, V.int .i64 x3] [Ob.nrow [] 103 y13 y14]) fun x10 => asTup (some x10) fun x11 => PI.asInt .i64 x11[0]? fun x12 => asOsl x11[1]? fun x13 x14 => need (O.W 0 72 [0] [V.ref 0, V.int .i64 x12]
 [Ob.nrow [] 22 y15 y16]) fun x15 => asTup (some x15) fun x16 => PI.asInt .i64 x16[0]? fun x17 => asOsl x16[1]? fun x18 x19 => must (false || x5.all flatV) (must (false || x7.all flatV) (must (false ||
 x9.all flatV) (some (V.tup [V.int .i64 x17, V.osl x4 x5, V.osl x6 x7, V.osl x8 x9, V.osl x13 x14, V.osl x18 x19]))))
theorem e65 (k m q0 q1 : Nat) (y1 : Int) (y2 : Int) (y3 : Int) (y4 : Bool) (y5 : Int) (y6 : Int) (y7 : Nat) (y8 : List V) (y9 : Nat) (y10 : List V) (y11 : Nat) (y12 : List V) (y13 : Nat) (y14 : List V)
 (y15 : Nat) (y16 : List V) : runW C (k + 1) 65 [0, 1, 2, 3, 4] [V.agg [V.int .i64 y1, V.int .i64 y2, V.ref 0, V.ref 1, V.ref 2, V.ref 3, V.int .i64 y3, V.bool y4, V.ref 4, V.int .i64 y5], V.int .i64
 y6] [Ob.row 5 y7 y8 false, Ob.row 5 y9 y10 false, Ob.row 5 y11 y12 false, Ob.nrow [] 103 y13 y14, Ob.nrow [] 22 y15 y16] = T65 (orc C k) k m q0 q1 y1 y2 y3 y4 y5 y6 y7 y8 y9 y10 y11 y12 y13 y14 y15
 y16 := by kernel_rfl
theorem E65 (y1 : Int) (y2 : Int) (y3 : Int) (y4 : Bool) (y5 : Int) (y6 : Int) (y7 : Nat) (y8 : List V) (y9 : Nat) (y10 : List V) (y11 : Nat) (y12 : List V) (y13 : Nat) (y14 : List V) (y15 : Nat) (y16
 : List V) {r : V} (h : T65 (orcE C) 0 0 0 0 y1 y2 y3 y4 y5 y6 y7 y8 y9 y10 y11 y12 y13 y14 y15 y16 = some r) : runWE C 65 [0, 1, 2, 3, 4] [V.agg [V.int .i64 y1, V.int .i64 y2, V.ref 0, V.ref 1, V.ref
 2, V.ref 3, V.int .i64 y3, V.bool y4, V.ref 4, V.int .i64 y5], V.int .i64 y6] [Ob.row 5 y7 y8 false, Ob.row 5 y9 y10 false, Ob.row 5 y11 y12 false, Ob.nrow [] 103 y13 y14, Ob.nrow [] 22 y15 y16] =
 some r := ofW (F := fun s => T65 (orc C s.k) s.k s.m 0 0 y1 y2 y3 y4 y5 y6 y7 y8 y9 y10 y11 y12 y13 y14 y15 y16) (fun k => e65 k k 0 0 y1 y2 y3 y4 y5 y6 y7 y8 y9 y10 y11 y12 y13 y14 y15 y16) (by
  unfold T65
  repeat' first | with_reducible exact cC | with_reducible refine cN cQ fun _ => ?_ | with_reducible refine cT fun _ => ?_ | with_reducible refine cI fun _ => ?_ | with_reducible refine cM ?_ | with_reducible refine cO fun _ _ => ?_ | with_reducible refine cN cC fun _ => ?_ | with_reducible exact cQ) h

noncomputable def T37 (O : Orc) (k m q0 q1 : Nat) (y1 : Int) (y2 : Int) (y3 : Int) (y4 : Nat) (y5 : List V) (y6 : Nat) (y7 : List V) (y8 : Nat) (y9 : List V) : Option V := need (O.W 0 125 [0] [V.ref 0,
 V.int .i64 y3] [Ob.row 5 y4 y5 false]) fun x1 => asTup (some x1) fun x2 => PI.asInt .i64 x2[0]? fun x3 => asOsl x2[1]? fun x4 x5 => need (O.W 0 125 [0] [V.ref 0, V.int .i64 x3] [Ob.row 5 y6 y7 false])
 fun x6 => asTup (some x6) fun x7 => PI.asInt .i64 x7[0]? fun x8 => asOsl x7[1]? fun x9 x10 => need (O.W 0 125 [0] [V.ref 0, V.int .i64 x8] [Ob.row 5 y8 y9 false]) fun x11 => asTup (some x11) fun x12
 => PI.asInt .i64 x12[0]? fun x13 => asOsl x12[1]? fun x14 x15 => must (false || x5.all flatV) (must (false || x10.all flatV) (must (false || x15.all flatV) (some (V.tup [V.int .i64 x13, V.osl x4 x5,
 V.osl x9 x10, V.osl x14 x15]))))
theorem e37 (k m q0 q1 : Nat) (y1 : Int) (y2 : Int) (y3 : Int) (y4 : Nat) (y5 : List V) (y6 : Nat) (y7 : List V) (y8 : Nat) (y9 : List V) : runW C (k + 1) 37 [0, 1, 2] [V.agg [V.int .i64 y1, V.int .i64
 y2, V.ref 0, V.ref 1, V.ref 2], V.int .i64 y3] [Ob.row 5 y4 y5 false, Ob.row 5 y6 y7 false, Ob.row 5 y8 y9 false] = T37 (orc C k) k m q0 q1 y1 y2 y3 y4 y5 y6 y7 y8 y9 := by kernel_rfl
theorem E37 (y1 : Int) (y2 : Int) (y3 : Int) (y4 : Nat) (y5 : List V) (y6 : Nat) (y7 : List V) (y8 : Nat) (y9 : List V) {r : V} (h : T37 (orcE C) 0 0 0 0 y1 y2 y3 y4 y5 y6 y7 y8 y9 = some r) : runWE C
 37 [0, 1, 2] [V.agg [V.int .i64 y1, V.int .i64 y2, V.ref 0, V.ref 1, V.ref 2], V.int .i64 y3] [Ob.row 5 y4 y5 false, Ob.row 5 y6 y7 false, Ob.row 5 y8 y9 false] = some r := ofW (F := fun s => T37 (orc
 C s.k) s.k s.m 0 0 y1 y2 y3 y4 y5 y6 y7 y8 y9) (fun k => e37 k k 0 0 y1 y2 y3 y4 y5 y6 y7 y8 y9) (by
  unfold T37
  repeat' first | with_reducible exact cC | with_reducible refine cN cQ fun _ => ?_ | with_reducible refine cT fun _ => ?_ | with_reducible refine cI fun _ => ?_ | with_reducible refine cM ?_ | with_reducible refine cO fun _ _ => ?_ | with_reducible refine cN cC fun _ => ?_ | with_reducible exact cQ) h

noncomputable def T38 (O : Orc) (k m q0 q1 : Nat) (y1 : Int) (y2 : Nat) (y3 : List V) : Option V := O.X 0 38 [0] [Ob.nrow [] 103 0 []] 0 [true, false, true] [] k [(0, V.ref 0), (1, V.int .i64 y1), (5,
 V.int .i64 0)] [Ob.nrow [] 103 y2 y3]
theorem e38 (k m q0 q1 : Nat) (y1 : Int) (y2 : Nat) (y3 : List V) : runW C (k + 1) 38 [0] [V.ref 0, V.int .i64 y1] [Ob.nrow [] 103 y2 y3] = T38 (orc C k) k m q0 q1 y1 y2 y3 := by kernel_rfl
theorem E38 (y1 : Int) (y2 : Nat) (y3 : List V) {r : V} (h : T38 (orcE C) 0 0 0 0 y1 y2 y3 = some r) : runWE C 38 [0] [V.ref 0, V.int .i64 y1] [Ob.nrow [] 103 y2 y3] = some r := ofW (F := fun s => T38
 (orc C s.k) s.k s.m 0 0 y1 y2 y3) (fun k => e38 k k 0 0 y1 y2 y3) (by
  unfold T38
  repeat' first | with_reducible exact cC | exact cX0 gK) h

noncomputable def T39 (O : Orc) (k m q0 q1 : Nat) (y1 : Int) (y2 : Int) (y3 : Int) (y4 : Int) (y5 : Bool) (y6 : Int) (y7 : Int) (y8 : Nat) (y9 : List V) (y10 : Nat) (y11 : List V) (y12 : Nat) (y13 :
 List V) (y14 : Nat) (y15 : List V) (y16 : Nat) (y17 : List V) : Option V := need (O.W 0 65 [0, 1, 2, 3, 4] [V.agg [V.int .i64 y2, V.int .i64 y3, V.ref 0, V.ref 1, V.ref 2, V.ref 3, V.int .i64 y4,
 V.bool y5, V.ref 4, V.int .i64 y6], V.int .i64 y7] [Ob.row 5 y8 y9 false, Ob.row 5 y10 y11 false, Ob.row 5 y12 y13 false, Ob.nrow [] 103 y14 y15, Ob.nrow [] 22 y16 y17]) fun x1 => asTup (some x1) fun
 x2 => PI.asInt .i64 x2[0]? fun x3 => asOsl x2[1]? fun x4 x5 => asOsl x2[2]? fun x6 x7 => asOsl x2[3]? fun x8 x9 => asOsl x2[4]? fun x10 x11 => asOsl x2[5]? fun x12 x13 => must (false || x5.all flatV)
 (must (false || x7.all flatV) (must (false || x9.all flatV) (some (V.tup [V.int .i64 x3, V.osl x4 x5, V.osl x6 x7, V.osl x8 x9, V.osl x10 x11, V.osl x12 x13]))))
theorem e39 (k m q0 q1 : Nat) (y1 : Int) (y2 : Int) (y3 : Int) (y4 : Int) (y5 : Bool) (y6 : Int) (y7 : Int) (y8 : Nat) (y9 : List V) (y10 : Nat) (y11 : List V) (y12 : Nat) (y13 : List V) (y14 : Nat)
 (y15 : List V) (y16 : Nat) (y17 : List V) : runW C (k + 1) 39 [0, 1, 2, 3, 4] [V.agg [V.int .i64 y1, V.int .i64 y2, V.int .i64 y3, V.ref 0, V.ref 1, V.ref 2, V.ref 3, V.int .i64 y4, V.bool y5, V.ref
 4, V.int .i64 y6], V.int .i64 y7] [Ob.row 5 y8 y9 false, Ob.row 5 y10 y11 false, Ob.row 5 y12 y13 false, Ob.nrow [] 103 y14 y15, Ob.nrow [] 22 y16 y17] = T39 (orc C k) k m q0 q1 y1 y2 y3 y4 y5 y6 y7
 y8 y9 y10 y11 y12 y13 y14 y15 y16 y17 := by kernel_rfl
theorem E39 (y1 : Int) (y2 : Int) (y3 : Int) (y4 : Int) (y5 : Bool) (y6 : Int) (y7 : Int) (y8 : Nat) (y9 : List V) (y10 : Nat) (y11 : List V) (y12 : Nat) (y13 : List V) (y14 : Nat) (y15 : List V) (y16
 : Nat) (y17 : List V) {r : V} (h : T39 (orcE C) 0 0 0 0 y1 y2 y3 y4 y5 y6 y7 y8 y9 y10 y11 y12 y13 y14 y15 y16 y17 = some r) : runWE C 39 [0, 1, 2, 3, 4] [V.agg [V.int .i64 y1, V.int .i64 y2, V.int
 .i64 y3, V.ref 0, V.ref 1, V.ref 2, V.ref 3, V.int .i64 y4, V.bool y5, V.ref 4, V.int .i64 y6], V.int .i64 y7] [Ob.row 5 y8 y9 false, Ob.row 5 y10 y11 false, Ob.row 5 y12 y13 false, Ob.nrow [] 103 y14
 y15, Ob.nrow [] 22 y16 y17] = some r := ofW (F := fun s => T39 (orc C s.k) s.k s.m 0 0 y1 y2 y3 y4 y5 y6 y7 y8 y9 y10 y11 y12 y13 y14 y15 y16 y17) (fun k => e39 k k 0 0 y1 y2 y3 y4 y5 y6 y7 y8 y9 y10
 y11 y12 y13 y14 y15 y16 y17) (by
  unfold T39
  repeat' first | with_reducible exact cC | with_reducible refine cN cQ fun _ => ?_ | with_reducible refine cT fun _ => ?_ | with_reducible refine cI fun _ => ?_ | with_reducible refine cM ?_ | with_reducible refine cO fun _ _ => ?_ | with_reducible refine cN cC fun _ => ?_ | with_reducible exact cQ) h

noncomputable def T40 (O : Orc) (k m q0 q1 : Nat) (y1 : Int) (y2 : Int) (y3 : Int) (y4 : Nat) (y5 : List V) (y6 : Nat) (y7 : List V) (y8 : Nat) (y9 : List V) (y10 : Nat) (y11 : List V) (y12 : Int) (y13
 : Bool) (y14 : Nat) (y15 : List V) (y16 : Int) (y17 : Int) : Option V := need (O.R 0 126 [V.agg [V.int .i64 y2, V.int .i64 y3, V.sl y4 y5, V.sl y6 y7, V.sl y8 y9, V.sl y10 y11, V.int .i64 y12, V.bool
 y13, V.sl y14 y15, V.int .i64 y16], V.int .i64 y17]) fun x1 => asTup (some x1) fun x2 => PI.asInt .i64 x2[0]? fun x3 => bif decide (x3 < 0) then some (V.tup [V.int .i64 (-1)]) else some (V.tup [V.int
 .i64 x3])
theorem e40 (k m q0 q1 : Nat) (y1 : Int) (y2 : Int) (y3 : Int) (y4 : Nat) (y5 : List V) (y6 : Nat) (y7 : List V) (y8 : Nat) (y9 : List V) (y10 : Nat) (y11 : List V) (y12 : Int) (y13 : Bool) (y14 : Nat)
 (y15 : List V) (y16 : Int) (y17 : Int) : runV C (k + 1) 40 [V.agg [V.int .i64 y1, V.int .i64 y2, V.int .i64 y3, V.sl y4 y5, V.sl y6 y7, V.sl y8 y9, V.sl y10 y11, V.int .i64 y12, V.bool y13, V.sl y14
 y15, V.int .i64 y16], V.int .i64 y17] = T40 (orc C k) k m q0 q1 y1 y2 y3 y4 y5 y6 y7 y8 y9 y10 y11 y12 y13 y14 y15 y16 y17 := by kernel_rfl
theorem E40 (y1 : Int) (y2 : Int) (y3 : Int) (y4 : Nat) (y5 : List V) (y6 : Nat) (y7 : List V) (y8 : Nat) (y9 : List V) (y10 : Nat) (y11 : List V) (y12 : Int) (y13 : Bool) (y14 : Nat) (y15 : List V)
 (y16 : Int) (y17 : Int) {r : V} (h : T40 (orcE C) 0 0 0 0 y1 y2 y3 y4 y5 y6 y7 y8 y9 y10 y11 y12 y13 y14 y15 y16 y17 = some r) : runE C 40 [V.agg [V.int .i64 y1, V.int .i64 y2, V.int .i64 y3, V.sl y4
 y5, V.sl y6 y7, V.sl y8 y9, V.sl y10 y11, V.int .i64 y12, V.bool y13, V.sl y14 y15, V.int .i64 y16], V.int .i64 y17] = some r := ofR (F := fun s => T40 (orc C s.k) s.k s.m 0 0 y1 y2 y3 y4 y5 y6 y7 y8
 y9 y10 y11 y12 y13 y14 y15 y16 y17) (fun k => e40 k k 0 0 y1 y2 y3 y4 y5 y6 y7 y8 y9 y10 y11 y12 y13 y14 y15 y16 y17) (by
  unfold T40
  repeat' first | with_reducible exact cC | with_reducible refine cN cR fun _ => ?_ | with_reducible refine cT fun _ => ?_ | with_reducible refine cI fun _ => ?_ | with_reducible refine cF ?_ ?_ | with_reducible refine cN cC fun _ => ?_ | with_reducible exact cR) h

noncomputable def T66 (O : Orc) (k m q0 q1 : Nat) (y1 : Nat) (y2 : List V) (y3 : Int) : Option V := bif decide (IntKind.i64.wrap (y3 - (↑y1 : Int)) < 0) then some (V.tup [V.int .i64 (-1)]) else O.L 0
 66 0 [true, true, true, false, true] [] k [(0, V.sl y1 y2), (1, V.int .i64 (IntKind.i64.wrap (y3 - (↑y1 : Int)))), (5, V.int .i64 0)] []
theorem e66 (k m q0 q1 : Nat) (y1 : Nat) (y2 : List V) (y3 : Int) : runV C (k + 1) 66 [V.sl y1 y2, V.int .i64 y3] = T66 (orc C k) k m q0 q1 y1 y2 y3 := by kernel_rfl
theorem E66 (y1 : Nat) (y2 : List V) (y3 : Int) {r : V} (h : T66 (orcE C) 0 0 0 0 y1 y2 y3 = some r) : runE C 66 [V.sl y1 y2, V.int .i64 y3] = some r := ofR (F := fun s => T66 (orc C s.k) s.k s.m 0 0
 y1 y2 y3) (fun k => e66 k k 0 0 y1 y2 y3) (by
  unfold T66
  repeat' first | with_reducible exact cC | with_reducible refine cF ?_ ?_ | exact cD0 gK) h

noncomputable def T115 (O : Orc) (k m q0 q1 : Nat) (y1 : Nat) (y2 : List V) (y3 : Int) : Option V := bif decide (IntKind.i64.wrap (y3 - (↑y1 : Int)) < 0) then some (V.tup [V.int .i64 (-1)]) else some
 (V.tup [V.int .i64 (IntKind.i64.wrap (y3 - (↑y1 : Int)))])
theorem e115 (k m q0 q1 : Nat) (y1 : Nat) (y2 : List V) (y3 : Int) : runV C (k + 1) 115 [V.sl y1 y2, V.int .i64 y3] = T115 (orc C k) k m q0 q1 y1 y2 y3 := by kernel_rfl
theorem E115 (y1 : Nat) (y2 : List V) (y3 : Int) {r : V} (h : T115 (orcE C) 0 0 0 0 y1 y2 y3 = some r) : runE C 115 [V.sl y1 y2, V.int .i64 y3] = some r := ofR (F := fun s => T115 (orc C s.k) s.k s.m 0
 0 y1 y2 y3) (fun k => e115 k k 0 0 y1 y2 y3) (by
  unfold T115
  repeat' first | with_reducible exact cC | with_reducible refine cF ?_ ?_) h

noncomputable def T29l1 (O : Orc) (k m q0 q1 : Nat) (y1 : Nat) (y2 : List V) (y3 : Int) (y4 : Int) : Option V := bif decide (y4 < (↑y1 : Int)) then must (inB y4 y1) (asSl y2[y4.toNat * 2]? fun x1 x2 =>
 PI.asInt .i64 y2[y4.toNat * 2 + 1]? fun x3 => need (O.R 0 116 [V.agg [V.sl x1 x2, V.int .i64 x3], V.int .i64 y3]) fun x4 => asTup (some x4) fun x5 => PI.asInt .i64 x5[0]? fun x6 => bif decide (x6 < 0)
 then some (V.tup [V.int .i64 (-1)]) else O.L 0 29 0 [true, true, true, false, true] [] m [(0, V.sl y1 y2), (1, V.int .i64 x6), (5, V.int .i64 (IntKind.i64.wrap (y4 + 1)))] []) else some (V.tup [V.int
 .i64 y3])
theorem e29l1 (k m q0 q1 : Nat) (y1 : Nat) (y2 : List V) (y3 : Int) (y4 : Int) : runL C k 29 0 [true, true, true, false, true] [] (m + 1) [(0, V.sl y1 y2), (1, V.int .i64 y3), (5, V.int .i64 y4)] [] =
 T29l1 (orc C k) k m q0 q1 y1 y2 y3 y4 := by kernel_rfl
theorem E29l1 (y1 : Nat) (y2 : List V) (y3 : Int) (y4 : Int) {r : V} (h : T29l1 (orcE C) 0 0 0 0 y1 y2 y3 y4 = some r) : loopE C 29 0 [true, true, true, false, true] [] [(0, V.sl y1 y2), (1, V.int .i64
 y3), (5, V.int .i64 y4)] [] = some r := ofL (j := 0) (F := fun s => T29l1 (orc C s.k) s.k s.m 0 0 y1 y2 y3 y4) (fs0 fun k m => e29l1 k m 0 0 y1 y2 y3 y4) (by
  unfold T29l1
  repeat' first | with_reducible exact cC | with_reducible refine cN cR fun _ => ?_ | with_reducible refine cT fun _ => ?_ | with_reducible refine cI fun _ => ?_ | with_reducible refine cM ?_ | with_reducible refine cF ?_ ?_ | with_reducible refine cL fun _ _ => ?_ | with_reducible refine cN cC fun _ => ?_ | with_reducible exact cR | exact cD0 gM) h

noncomputable def T67 (O : Orc) (k m q0 q1 : Nat) (y1 : Nat) (y2 : List V) : Option V := must (decide ((↑y1 : Int) = (↑y1 : Int)) && decide (0 ≤ (↑y1 : Int)) && decide ((↑y1 : Int) ≤ 140737488355328)
 && decide ((↑y1 : Int) * 24 ≤ 140737488355328)) (O.L 0 67 0 [true, true, false, true] [] k [(0, V.sl y1 y2), (3, V.ref 0), (4, V.int .i64 0)] [Ob.nrow [] 22 (↑y1 : Int).toNat (reps (↑y1 : Int).toNat
 [V.nilsl])])
theorem e67 (k m q0 q1 : Nat) (y1 : Nat) (y2 : List V) : runV C (k + 1) 67 [V.sl y1 y2] = T67 (orc C k) k m q0 q1 y1 y2 := by kernel_rfl
theorem E67 (y1 : Nat) (y2 : List V) {r : V} (h : T67 (orcE C) 0 0 0 0 y1 y2 = some r) : runE C 67 [V.sl y1 y2] = some r := ofR (F := fun s => T67 (orc C s.k) s.k s.m 0 0 y1 y2) (fun k => e67 k k 0 0
 y1 y2) (by
  unfold T67
  repeat' first | with_reducible exact cC | with_reducible refine cM ?_ | exact cD0 gK) h

noncomputable def T119 (O : Orc) (k m q0 q1 : Nat) (y1 : Nat) (y2 : List V) : Option V := must (decide ((↑y1 : Int) = (↑y1 : Int)) && decide (0 ≤ (↑y1 : Int)) && decide ((↑y1 : Int) ≤ 140737488355328)
 && decide ((↑y1 : Int) * 1 ≤ 140737488355328)) (O.L 0 119 0 [true, true, false, true] [] k [(0, V.sl y1 y2), (3, V.ref 0), (4, V.int .i64 0)] [Ob.row 5 (↑y1 : Int).toNat (reps (↑y1 : Int).toNat [V.int
 .u8 0]) false])
theorem e119 (k m q0 q1 : Nat) (y1 : Nat) (y2 : List V) : runV C (k + 1) 119 [V.sl y1 y2] = T119 (orc C k) k m q0 q1 y1 y2 := by kernel_rfl
theorem E119 (y1 : Nat) (y2 : List V) {r : V} (h : T119 (orcE C) 0 0 0 0 y1 y2 = some r) : runE C 119 [V.sl y1 y2] = some r := ofR (F := fun s => T119 (orc C s.k) s.k s.m 0 0 y1 y2) (fun k => e119 k k
 0 0 y1 y2) (by
  unfold T119
  repeat' first | with_reducible exact cC | with_reducible refine cM ?_ | exact cD0 gK) h

noncomputable def T32l1 (O : Orc) (k m q0 q1 : Nat) (y1 : Nat) (y2 : List V) (y3 : Int) (y4 : Nat) (y5 : List V) : Option V := bif decide (y3 < (↑y1 : Int)) then must (inB y3 y1) (asSl y2[y3.toNat *
 2]? fun x1 x2 => PI.asInt .i64 y2[y3.toNat * 2 + 1]? fun x3 => need (O.R 0 120 [V.agg [V.sl x1 x2, V.int .i64 x3]]) fun x4 => asTup (some x4) fun x5 => asOsl x5[0]? fun x6 x7 => PI.asInt .i64 x5[1]?
 fun x8 => must (inB y3 y4) (must (x7.all flatV) (must ([V.own false 5 1 x6 x7, V.int .i64 x8].length.beq 2 && (y3.toNat * 2 + [V.own false 5 1 x6 x7, V.int .i64 x8].length).ble y5.length) (O.L 0 32 0
 [true, true, false, true] [] m [(0, V.sl y1 y2), (3, V.ref 0), (4, V.int .i64 (IntKind.i64.wrap (y3 + 1)))] [Ob.nrow [] 103 y4 (splice y5 (y3.toNat * 2) [V.own false 5 1 x6 x7, V.int .i64 x8])]))))
 else some (V.tup [V.osl y4 y5])
theorem e32l1 (k m q0 q1 : Nat) (y1 : Nat) (y2 : List V) (y3 : Int) (y4 : Nat) (y5 : List V) : runL C k 32 0 [true, true, false, true] [] (m + 1) [(0, V.sl y1 y2), (3, V.ref 0), (4, V.int .i64 y3)]
 [Ob.nrow [] 103 y4 y5] = T32l1 (orc C k) k m q0 q1 y1 y2 y3 y4 y5 := by kernel_rfl
theorem E32l1 (y1 : Nat) (y2 : List V) (y3 : Int) (y4 : Nat) (y5 : List V) {r : V} (h : T32l1 (orcE C) 0 0 0 0 y1 y2 y3 y4 y5 = some r) : loopE C 32 0 [true, true, false, true] [] [(0, V.sl y1 y2), (3,
 V.ref 0), (4, V.int .i64 y3)] [Ob.nrow [] 103 y4 y5] = some r := ofL (j := 0) (F := fun s => T32l1 (orc C s.k) s.k s.m 0 0 y1 y2 y3 y4 y5) (fs0 fun k m => e32l1 k m 0 0 y1 y2 y3 y4 y5) (by
  unfold T32l1
  repeat' first | with_reducible exact cC | with_reducible refine cN cR fun _ => ?_ | with_reducible refine cT fun _ => ?_ | with_reducible refine cI fun _ => ?_ | with_reducible refine cM ?_ | with_reducible refine cF ?_ ?_ | with_reducible refine cL fun _ _ => ?_ | with_reducible refine cO fun _ _ => ?_ | with_reducible refine cN cC fun _ => ?_ | with_reducible exact cR | exact cD0 gM) h

noncomputable def T117 (O : Orc) (k m q0 q1 : Nat) (y1 : Int) (y2 : Int) (y3 : Nat) (y4 : List V) (y5 : Nat) (y6 : List V) (y7 : Nat) (y8 : List V) (y9 : Nat) (y10 : List V) (y11 : Int) (y12 : Bool)
 (y13 : Nat) (y14 : List V) (y15 : Int) : Option V := need (O.R 0 143 [V.agg [V.int .i64 y1, V.int .i64 y2, V.sl y3 y4, V.sl y5 y6, V.sl y7 y8]]) fun x1 => asTup (some x1) fun x2 => PI.asInt .i64
 x2[0]? fun x3 => bif x3 != 0 then some (V.tup [V.int .i64 x3]) else need (O.R 0 190 [V.sl y9 y10]) fun x4 => asTup (some x4) fun x5 => PI.asInt .i64 x5[0]? fun x6 => bif x6 != 0 then some (V.tup
 [V.int .i64 x6]) else need (O.R 0 191 [V.sl y9 y10]) fun x7 => asTup (some x7) fun x8 => asSl x8[0]? fun x9 x10 => need (O.R 0 176 [V.sl y7 y8, V.sl x9 x10]) fun x11 => asTup (some x11) fun x12 =>
 PI.asBool x12[0]? fun x13 => bif !x13 then some (V.tup [V.int .i64 1]) else need (O.R 0 103 [V.int .i64 y11, V.int .i64 1, V.int .i64 1099511627776]) fun x14 => asTup (some x14) fun x15 => PI.asBool
 x15[0]? fun x16 => bif !x16 then some (V.tup [V.int .i64 3]) else bif decide ((↑y13 : Int) > 24) then some (V.tup [V.int .i64 2]) else bif (↑y13 : Int) == 0 then some (V.tup [V.int .i64 1]) else bif
 decide (y15 < 1) then some (V.tup [V.int .i64 1]) else bif decide (y15 > y1) then some (V.tup [V.int .i64 1]) else bif IntKind.i64.wrap (IntKind.i64.wrap (y15 + (↑y13 : Int)) - 1) != y1 then some
 (V.tup [V.int .i64 1]) else O.L 0 117 0 [true, true, true, true, true, true, true, true, false, true] [] k [(1, V.ptr 0 0), (5, V.int .i64 (↑y13 : Int)), (6, V.int .i64 0)] [Ob.box 64 [V.int .i64 y1,
 V.int .i64 y2, V.sl y3 y4, V.sl y5 y6, V.sl y7 y8, V.sl y9 y10, V.int .i64 y11, V.bool y12, V.sl y13 y14, V.int .i64 y15] false]
theorem e117 (k m q0 q1 : Nat) (y1 : Int) (y2 : Int) (y3 : Nat) (y4 : List V) (y5 : Nat) (y6 : List V) (y7 : Nat) (y8 : List V) (y9 : Nat) (y10 : List V) (y11 : Int) (y12 : Bool) (y13 : Nat) (y14 :
 List V) (y15 : Int) : runV C (k + 1) 117 [V.agg [V.int .i64 y1, V.int .i64 y2, V.sl y3 y4, V.sl y5 y6, V.sl y7 y8, V.sl y9 y10, V.int .i64 y11, V.bool y12, V.sl y13 y14, V.int .i64 y15]] = T117 (orc C
 k) k m q0 q1 y1 y2 y3 y4 y5 y6 y7 y8 y9 y10 y11 y12 y13 y14 y15 := by kernel_rfl
theorem E117 (y1 : Int) (y2 : Int) (y3 : Nat) (y4 : List V) (y5 : Nat) (y6 : List V) (y7 : Nat) (y8 : List V) (y9 : Nat) (y10 : List V) (y11 : Int) (y12 : Bool) (y13 : Nat) (y14 : List V) (y15 : Int)
 {r : V} (h : T117 (orcE C) 0 0 0 0 y1 y2 y3 y4 y5 y6 y7 y8 y9 y10 y11 y12 y13 y14 y15 = some r) : runE C 117 [V.agg [V.int .i64 y1, V.int .i64 y2, V.sl y3 y4, V.sl y5 y6, V.sl y7 y8, V.sl y9 y10,
 V.int .i64 y11, V.bool y12, V.sl y13 y14, V.int .i64 y15]] = some r := ofR (F := fun s => T117 (orc C s.k) s.k s.m 0 0 y1 y2 y3 y4 y5 y6 y7 y8 y9 y10 y11 y12 y13 y14 y15) (fun k => e117 k k 0 0 y1 y2
 y3 y4 y5 y6 y7 y8 y9 y10 y11 y12 y13 y14 y15) (by
  unfold T117
  repeat' first | with_reducible exact cC | with_reducible refine cN cR fun _ => ?_ | with_reducible refine cT fun _ => ?_ | with_reducible refine cI fun _ => ?_ | with_reducible refine cF ?_ ?_ | with_reducible refine cB fun _ => ?_ | with_reducible refine cL fun _ _ => ?_ | with_reducible refine cN cC fun _ => ?_ | with_reducible exact cR | exact cD0 gK) h

noncomputable def T30 (O : Orc) (k m q0 q1 : Nat) (y1 : Int) (y2 : Int) (y3 : Nat) (y4 : List V) (y5 : Nat) (y6 : List V) (y7 : Nat) (y8 : List V) (y9 : Nat) (y10 : List V) (y11 : Int) : Option V :=
 need (O.R 0 117 [V.agg [V.int .i64 y1, V.int .i64 y2, V.sl y3 y4, V.sl y5 y6, V.sl y7 y8, V.sl y9 y10, V.int .i64 y11, V.bool false, V.sl 1 [V.sl y3 y4], V.int .i64 y1]]) fun x1 => asTup (some x1) fun
 x2 => PI.asInt .i64 x2[0]? fun x3 => bif x3 != 0 then some (V.tup [V.int .i64 x3, V.int .i64 0, V.int .i64 0, V.sl 0 [], V.sl 0 [], V.sl 0 [], V.sl 0 [], V.int .i64 0, V.bool false, V.sl 0 [], V.int
 .i64 0]) else need (O.R 0 118 [V.agg [V.int .i64 y1, V.int .i64 y2, V.sl y3 y4, V.sl y5 y6, V.sl y7 y8, V.sl y9 y10, V.int .i64 y11, V.bool false, V.sl 1 [V.sl y3 y4], V.int .i64 y1]]) fun x4 => asTup
 (some x4) fun x5 => PI.asInt .i64 x5[0]? fun x6 => PI.asInt .i64 x5[1]? fun x7 => asSl x5[2]? fun x8 x9 => asSl x5[3]? fun x10 x11 => asSl x5[4]? fun x12 x13 => asSl x5[5]? fun x14 x15 => PI.asInt
 .i64 x5[6]? fun x16 => PI.asBool x5[7]? fun x17 => asSl x5[8]? fun x18 x19 => PI.asInt .i64 x5[9]? fun x20 => some (V.tup [V.int .i64 0, V.int .i64 x6, V.int .i64 x7, V.sl x8 x9, V.sl x10 x11, V.sl
 x12 x13, V.sl x14 x15, V.int .i64 x16, V.bool x17, V.sl x18 x19, V.int .i64 x20])
theorem e30 (k m q0 q1 : Nat) (y1 : Int) (y2 : Int) (y3 : Nat) (y4 : List V) (y5 : Nat) (y6 : List V) (y7 : Nat) (y8 : List V) (y9 : Nat) (y10 : List V) (y11 : Int) : runV C (k + 1) 30 [V.agg [V.int
 .i64 y1, V.int .i64 y2, V.sl y3 y4, V.sl y5 y6, V.sl y7 y8], V.sl y9 y10, V.int .i64 y11] = T30 (orc C k) k m q0 q1 y1 y2 y3 y4 y5 y6 y7 y8 y9 y10 y11 := by kernel_rfl
theorem E30 (y1 : Int) (y2 : Int) (y3 : Nat) (y4 : List V) (y5 : Nat) (y6 : List V) (y7 : Nat) (y8 : List V) (y9 : Nat) (y10 : List V) (y11 : Int) {r : V} (h : T30 (orcE C) 0 0 0 0 y1 y2 y3 y4 y5 y6 y7
 y8 y9 y10 y11 = some r) : runE C 30 [V.agg [V.int .i64 y1, V.int .i64 y2, V.sl y3 y4, V.sl y5 y6, V.sl y7 y8], V.sl y9 y10, V.int .i64 y11] = some r := ofR (F := fun s => T30 (orc C s.k) s.k s.m 0 0
 y1 y2 y3 y4 y5 y6 y7 y8 y9 y10 y11) (fun k => e30 k k 0 0 y1 y2 y3 y4 y5 y6 y7 y8 y9 y10 y11) (by
  unfold T30
  repeat' first | with_reducible exact cC | with_reducible refine cN cR fun _ => ?_ | with_reducible refine cT fun _ => ?_ | with_reducible refine cI fun _ => ?_ | with_reducible refine cF ?_ ?_ | with_reducible refine cB fun _ => ?_ | with_reducible refine cL fun _ _ => ?_ | with_reducible refine cN cC fun _ => ?_ | with_reducible exact cR) h

noncomputable def T121 (O : Orc) (k m q0 q1 : Nat) (y1 : Int) (y2 : Int) (y3 : Nat) (y4 : List V) (y5 : Nat) (y6 : List V) (y7 : Nat) (y8 : List V) (y9 : Nat) (y10 : List V) (y11 : Int) (y12 : Bool)
 (y13 : Nat) (y14 : List V) (y15 : Int) : Option V := need (O.R 7 136 [V.agg [V.int .i64 y1, V.int .i64 y2, V.sl y3 y4, V.sl y5 y6, V.sl y7 y8]]) fun x1 => asTup (some x1) fun x2 => PI.asInt .i64
 x2[0]? fun x3 => bif x3 != 0 then some (V.tup [V.int .i64 x3]) else need (O.R 7 147 [V.sl y9 y10]) fun x4 => asTup (some x4) fun x5 => PI.asInt .i64 x5[0]? fun x6 => bif x6 != 0 then some (V.tup
 [V.int .i64 x6]) else need (O.R 7 148 [V.sl y9 y10]) fun x7 => asTup (some x7) fun x8 => asSl x8[0]? fun x9 x10 => need (O.R 7 107 [V.sl y7 y8, V.sl x9 x10]) fun x11 => asTup (some x11) fun x12 =>
 PI.asBool x12[0]? fun x13 => bif !x13 then some (V.tup [V.int .i64 1]) else need (O.R 7 92 [V.int .i64 y11, V.int .i64 1, V.int .i64 1099511627776]) fun x14 => asTup (some x14) fun x15 => PI.asBool
 x15[0]? fun x16 => bif !x16 then some (V.tup [V.int .i64 3]) else bif decide ((↑y13 : Int) > 24) then some (V.tup [V.int .i64 2]) else bif (↑y13 : Int) == 0 then some (V.tup [V.int .i64 1]) else bif
 decide (y15 < 1) then some (V.tup [V.int .i64 1]) else bif decide (y15 > 1000000) then some (V.tup [V.int .i64 1]) else bif IntKind.i64.wrap (IntKind.i64.wrap (y15 + (↑y13 : Int)) - 1) != y1 then some
 (V.tup [V.int .i64 1]) else must (inB (IntKind.i64.wrap ((↑y13 : Int) - 1)) y13) (must (decide ((IntKind.i64.wrap ((↑y13 : Int) - 1)).toNat * 1 < y14.length)) (asSl y14[(IntKind.i64.wrap ((↑y13 : Int)
 - 1)).toNat * 1]? fun x17 x18 => need (O.R 7 107 [V.sl x17 x18, V.sl y3 y4]) fun x19 => asTup (some x19) fun x20 => PI.asBool x20[0]? fun x21 => bif !x21 then some (V.tup [V.int .i64 1]) else need
 (O.R 6 211 [V.sl y13 y14, V.fn 195 []]) fun x22 => asTup (some x22) fun x23 => PI.asInt .i64 x23[0]? fun x24 => bif decide (x24 ≥ 0) then some (V.tup [V.int .i64 1]) else some (V.tup [V.int .i64 0])))
theorem e121 (k m q0 q1 : Nat) (y1 : Int) (y2 : Int) (y3 : Nat) (y4 : List V) (y5 : Nat) (y6 : List V) (y7 : Nat) (y8 : List V) (y9 : Nat) (y10 : List V) (y11 : Int) (y12 : Bool) (y13 : Nat) (y14 :
 List V) (y15 : Int) : runV C (k + 8) 121 [V.agg [V.int .i64 y1, V.int .i64 y2, V.sl y3 y4, V.sl y5 y6, V.sl y7 y8, V.sl y9 y10, V.int .i64 y11, V.bool y12, V.sl y13 y14, V.int .i64 y15]] = T121 (orc C
 k) k m q0 q1 y1 y2 y3 y4 y5 y6 y7 y8 y9 y10 y11 y12 y13 y14 y15 := by kernel_rfl
theorem E121 (y1 : Int) (y2 : Int) (y3 : Nat) (y4 : List V) (y5 : Nat) (y6 : List V) (y7 : Nat) (y8 : List V) (y9 : Nat) (y10 : List V) (y11 : Int) (y12 : Bool) (y13 : Nat) (y14 : List V) (y15 : Int)
 {r : V} (h : T121 (orcE C) 0 0 0 0 y1 y2 y3 y4 y5 y6 y7 y8 y9 y10 y11 y12 y13 y14 y15 = some r) : runE C 121 [V.agg [V.int .i64 y1, V.int .i64 y2, V.sl y3 y4, V.sl y5 y6, V.sl y7 y8, V.sl y9 y10,
 V.int .i64 y11, V.bool y12, V.sl y13 y14, V.int .i64 y15]] = some r := ofR (F := fun s => T121 (orc C s.k) s.k s.m 0 0 y1 y2 y3 y4 y5 y6 y7 y8 y9 y10 y11 y12 y13 y14 y15) (fun k => e121 k k 0 0 y1 y2
 y3 y4 y5 y6 y7 y8 y9 y10 y11 y12 y13 y14 y15) (by
  unfold T121
  repeat' first | with_reducible exact cC | with_reducible refine cN cR fun _ => ?_ | with_reducible refine cT fun _ => ?_ | with_reducible refine cI fun _ => ?_ | with_reducible refine cM ?_ | with_reducible refine cF ?_ ?_ | with_reducible refine cB fun _ => ?_ | with_reducible refine cL fun _ _ => ?_ | with_reducible refine cN cC fun _ => ?_ | with_reducible exact cR) h

noncomputable def T33 (O : Orc) (k m q0 q1 : Nat) (y1 : Int) (y2 : Int) (y3 : Nat) (y4 : List V) (y5 : Nat) (y6 : List V) (y7 : Nat) (y8 : List V) (y9 : Nat) (y10 : List V) (y11 : Int) : Option V :=
 need (O.R 0 121 [V.agg [V.int .i64 y1, V.int .i64 y2, V.sl y3 y4, V.sl y5 y6, V.sl y7 y8, V.sl y9 y10, V.int .i64 y11, V.bool false, V.sl 1 [V.sl y3 y4], V.int .i64 y1]]) fun x1 => asTup (some x1) fun
 x2 => PI.asInt .i64 x2[0]? fun x3 => bif x3 != 0 then some (V.tup [V.int .i64 x3, V.int .i64 0, V.int .i64 0, V.osl 0 [], V.osl 0 [], V.osl 0 [], V.osl 0 [], V.int .i64 0, V.bool false, V.osl 0 [],
 V.int .i64 0]) else need (O.R 0 122 [V.agg [V.int .i64 y1, V.int .i64 y2, V.sl y3 y4, V.sl y5 y6, V.sl y7 y8, V.sl y9 y10, V.int .i64 y11, V.bool false, V.sl 1 [V.sl y3 y4], V.int .i64 y1]]) fun x4 =>
 asTup (some x4) fun x5 => PI.asInt .i64 x5[0]? fun x6 => PI.asInt .i64 x5[1]? fun x7 => asOsl x5[2]? fun x8 x9 => asOsl x5[3]? fun x10 x11 => asOsl x5[4]? fun x12 x13 => asOsl x5[5]? fun x14 x15 =>
 PI.asInt .i64 x5[6]? fun x16 => PI.asBool x5[7]? fun x17 => asOsl x5[8]? fun x18 x19 => PI.asInt .i64 x5[9]? fun x20 => must (false || x9.all flatV) (must (false || x11.all flatV) (must (false ||
 x13.all flatV) (some (V.tup [V.int .i64 0, V.int .i64 x6, V.int .i64 x7, V.osl x8 x9, V.osl x10 x11, V.osl x12 x13, V.osl x14 x15, V.int .i64 x16, V.bool x17, V.osl x18 x19, V.int .i64 x20]))))
theorem e33 (k m q0 q1 : Nat) (y1 : Int) (y2 : Int) (y3 : Nat) (y4 : List V) (y5 : Nat) (y6 : List V) (y7 : Nat) (y8 : List V) (y9 : Nat) (y10 : List V) (y11 : Int) : runV C (k + 1) 33 [V.agg [V.int
 .i64 y1, V.int .i64 y2, V.sl y3 y4, V.sl y5 y6, V.sl y7 y8], V.sl y9 y10, V.int .i64 y11] = T33 (orc C k) k m q0 q1 y1 y2 y3 y4 y5 y6 y7 y8 y9 y10 y11 := by kernel_rfl
theorem E33 (y1 : Int) (y2 : Int) (y3 : Nat) (y4 : List V) (y5 : Nat) (y6 : List V) (y7 : Nat) (y8 : List V) (y9 : Nat) (y10 : List V) (y11 : Int) {r : V} (h : T33 (orcE C) 0 0 0 0 y1 y2 y3 y4 y5 y6 y7
 y8 y9 y10 y11 = some r) : runE C 33 [V.agg [V.int .i64 y1, V.int .i64 y2, V.sl y3 y4, V.sl y5 y6, V.sl y7 y8], V.sl y9 y10, V.int .i64 y11] = some r := ofR (F := fun s => T33 (orc C s.k) s.k s.m 0 0
 y1 y2 y3 y4 y5 y6 y7 y8 y9 y10 y11) (fun k => e33 k k 0 0 y1 y2 y3 y4 y5 y6 y7 y8 y9 y10 y11) (by
  unfold T33
  repeat' first | with_reducible exact cC | with_reducible refine cN cR fun _ => ?_ | with_reducible refine cT fun _ => ?_ | with_reducible refine cI fun _ => ?_ | with_reducible refine cM ?_ | with_reducible refine cF ?_ ?_ | with_reducible refine cB fun _ => ?_ | with_reducible refine cO fun _ _ => ?_ | with_reducible refine cN cC fun _ => ?_ | with_reducible exact cR) h

noncomputable def T70 (O : Orc) (k m q0 q1 : Nat) (y1 : Nat) (y2 : List V) (y3 : Nat) (y4 : List V) : Option V := bif (↑y1 : Int) != (↑y3 : Int) then some (V.tup [V.bool false]) else O.L 0 70 0 [true,
 true, false, true] [] k [(0, V.sl y1 y2), (1, V.sl y3 y4), (5, V.int .i64 0)] []
theorem e70 (k m q0 q1 : Nat) (y1 : Nat) (y2 : List V) (y3 : Nat) (y4 : List V) : runV C (k + 1) 70 [V.sl y1 y2, V.sl y3 y4] = T70 (orc C k) k m q0 q1 y1 y2 y3 y4 := by kernel_rfl
theorem E70 (y1 : Nat) (y2 : List V) (y3 : Nat) (y4 : List V) {r : V} (h : T70 (orcE C) 0 0 0 0 y1 y2 y3 y4 = some r) : runE C 70 [V.sl y1 y2, V.sl y3 y4] = some r := ofR (F := fun s => T70 (orc C s.k)
 s.k s.m 0 0 y1 y2 y3 y4) (fun k => e70 k k 0 0 y1 y2 y3 y4) (by
  unfold T70
  repeat' first | with_reducible exact cC | with_reducible refine cF ?_ ?_ | exact cD0 gK) h

noncomputable def T123 (O : Orc) (k m q0 q1 : Nat) (y1 : Nat) (y2 : List V) (y3 : Nat) (y4 : List V) : Option V := bif (↑y1 : Int) != (↑y3 : Int) then some (V.tup [V.bool false]) else O.L 0 123 0
 [true, true, false, true] [] k [(0, V.sl y1 y2), (1, V.sl y3 y4), (5, V.int .i64 0)] []
theorem e123 (k m q0 q1 : Nat) (y1 : Nat) (y2 : List V) (y3 : Nat) (y4 : List V) : runV C (k + 1) 123 [V.sl y1 y2, V.sl y3 y4] = T123 (orc C k) k m q0 q1 y1 y2 y3 y4 := by kernel_rfl
theorem E123 (y1 : Nat) (y2 : List V) (y3 : Nat) (y4 : List V) {r : V} (h : T123 (orcE C) 0 0 0 0 y1 y2 y3 y4 = some r) : runE C 123 [V.sl y1 y2, V.sl y3 y4] = some r := ofR (F := fun s => T123 (orc C
 s.k) s.k s.m 0 0 y1 y2 y3 y4) (fun k => e123 k k 0 0 y1 y2 y3 y4) (by
  unfold T123
  repeat' first | with_reducible exact cC | with_reducible refine cF ?_ ?_ | exact cD0 gK) h

noncomputable def T36l1 (O : Orc) (k m q0 q1 : Nat) (y1 : Nat) (y2 : List V) (y3 : Nat) (y4 : List V) (y5 : Int) : Option V := bif decide (y5 < (↑y1 : Int)) then must (inB y5 y1) (asSl y2[y5.toNat *
 2]? fun x1 x2 => PI.asInt .i64 y2[y5.toNat * 2 + 1]? fun x3 => must (inB y5 y3) (asSl y4[y5.toNat * 2]? fun x4 x5 => PI.asInt .i64 y4[y5.toNat * 2 + 1]? fun x6 => need (O.R 0 124 [V.agg [V.sl x1 x2,
 V.int .i64 x3], V.agg [V.sl x4 x5, V.int .i64 x6]]) fun x7 => asTup (some x7) fun x8 => PI.asBool x8[0]? fun x9 => bif !x9 then some (V.tup [V.bool false]) else O.L 0 36 0 [true, true, false, true] []
 m [(0, V.sl y1 y2), (1, V.sl y3 y4), (5, V.int .i64 (IntKind.i64.wrap (y5 + 1)))] [])) else some (V.tup [V.bool true])
theorem e36l1 (k m q0 q1 : Nat) (y1 : Nat) (y2 : List V) (y3 : Nat) (y4 : List V) (y5 : Int) : runL C k 36 0 [true, true, false, true] [] (m + 1) [(0, V.sl y1 y2), (1, V.sl y3 y4), (5, V.int .i64 y5)]
 [] = T36l1 (orc C k) k m q0 q1 y1 y2 y3 y4 y5 := by kernel_rfl
theorem E36l1 (y1 : Nat) (y2 : List V) (y3 : Nat) (y4 : List V) (y5 : Int) {r : V} (h : T36l1 (orcE C) 0 0 0 0 y1 y2 y3 y4 y5 = some r) : loopE C 36 0 [true, true, false, true] [] [(0, V.sl y1 y2), (1,
 V.sl y3 y4), (5, V.int .i64 y5)] [] = some r := ofL (j := 0) (F := fun s => T36l1 (orc C s.k) s.k s.m 0 0 y1 y2 y3 y4 y5) (fs0 fun k m => e36l1 k m 0 0 y1 y2 y3 y4 y5) (by
  unfold T36l1
  repeat' first | with_reducible exact cC | with_reducible refine cN cR fun _ => ?_ | with_reducible refine cT fun _ => ?_ | with_reducible refine cI fun _ => ?_ | with_reducible refine cM ?_ | with_reducible refine cF ?_ ?_ | with_reducible refine cB fun _ => ?_ | with_reducible refine cL fun _ _ => ?_ | with_reducible refine cN cC fun _ => ?_ | with_reducible exact cR | exact cD0 gM) h

noncomputable def T72 (O : Orc) (k m q0 q1 : Nat) (y1 : Int) (y2 : Nat) (y3 : List V) : Option V := O.X 0 72 [0] [Ob.nrow [] 22 0 []] 0 [true, false, true] [] k [(0, V.ref 0), (1, V.int .i64 y1), (5,
 V.int .i64 0)] [Ob.nrow [] 22 y2 y3]
theorem e72 (k m q0 q1 : Nat) (y1 : Int) (y2 : Nat) (y3 : List V) : runW C (k + 1) 72 [0] [V.ref 0, V.int .i64 y1] [Ob.nrow [] 22 y2 y3] = T72 (orc C k) k m q0 q1 y1 y2 y3 := by kernel_rfl
theorem E72 (y1 : Int) (y2 : Nat) (y3 : List V) {r : V} (h : T72 (orcE C) 0 0 0 0 y1 y2 y3 = some r) : runWE C 72 [0] [V.ref 0, V.int .i64 y1] [Ob.nrow [] 22 y2 y3] = some r := ofW (F := fun s => T72
 (orc C s.k) s.k s.m 0 0 y1 y2 y3) (fun k => e72 k k 0 0 y1 y2 y3) (by
  unfold T72
  repeat' first | with_reducible exact cC | exact cX0 gK) h

noncomputable def T125 (O : Orc) (k m q0 q1 : Nat) (y1 : Int) (y2 : Nat) (y3 : List V) : Option V := O.X 0 125 [0] [Ob.row 5 0 [] false] 0 [true, false, true] [] k [(0, V.ref 0), (1, V.int .i64 y1),
 (5, V.int .i64 0)] [Ob.row 5 y2 y3 false]
theorem e125 (k m q0 q1 : Nat) (y1 : Int) (y2 : Nat) (y3 : List V) : runW C (k + 1) 125 [0] [V.ref 0, V.int .i64 y1] [Ob.row 5 y2 y3 false] = T125 (orc C k) k m q0 q1 y1 y2 y3 := by kernel_rfl
theorem E125 (y1 : Int) (y2 : Nat) (y3 : List V) {r : V} (h : T125 (orcE C) 0 0 0 0 y1 y2 y3 = some r) : runWE C 125 [0] [V.ref 0, V.int .i64 y1] [Ob.row 5 y2 y3 false] = some r := ofW (F := fun s =>
 T125 (orc C s.k) s.k s.m 0 0 y1 y2 y3) (fun k => e125 k k 0 0 y1 y2 y3) (by
  unfold T125
  repeat' first | with_reducible exact cC | exact cX0 gK) h

noncomputable def T38l1 (O : Orc) (k m q0 q1 : Nat) (y1 : Int) (y2 : Int) (y3 : Nat) (y4 : List V) : Option V := bif decide (y2 < (↑y3 : Int)) then must (inB y2 y3) (asOwn false 5 1 y4[y2.toNat * 2 +
 0]? fun x1 x2 => need (O.W 0 125 [0] [V.ref 0, V.int .i64 y1] [Ob.row 5 x1 x2 false]) fun x3 => asTup (some x3) fun x4 => PI.asInt .i64 x4[0]? fun x5 => asOsl x4[1]? fun x6 x7 => must (x7.all flatV)
 (must (inB y2 y3) (must ([V.int .i64 x5].length.beq 1 && (y2.toNat * 2 + 1 + [V.int .i64 x5].length).ble (y4.set (y2.toNat * 2 + 0) (V.own false 5 1 x6 x7)).length) (O.X 0 38 [0] [Ob.nrow [] 103 0 []]
 0 [true, false, true] [] m [(0, V.ref 0), (1, V.int .i64 (IntKind.i64.wrap (x5 + 1))), (5, V.int .i64 (IntKind.i64.wrap (y2 + 1)))] [Ob.nrow [] 103 y3 (splice (y4.set (y2.toNat * 2 + 0) (V.own false 5
 1 x6 x7)) (y2.toNat * 2 + 1) [V.int .i64 x5])])))) else some (V.tup [V.int .i64 y1, V.osl y3 y4])
theorem e38l1 (k m q0 q1 : Nat) (y1 : Int) (y2 : Int) (y3 : Nat) (y4 : List V) : runLW C k 38 [0] [Ob.nrow [] 103 0 []] 0 [true, false, true] [] (m + 1) [(0, V.ref 0), (1, V.int .i64 y1), (5, V.int
 .i64 y2)] [Ob.nrow [] 103 y3 y4] = T38l1 (orc C k) k m q0 q1 y1 y2 y3 y4 := by kernel_rfl
theorem E38l1 (y1 : Int) (y2 : Int) (y3 : Nat) (y4 : List V) {r : V} (h : T38l1 (orcE C) 0 0 0 0 y1 y2 y3 y4 = some r) : loopWE C 38 [0] [Ob.nrow [] 103 0 []] 0 [true, false, true] [] [(0, V.ref 0),
 (1, V.int .i64 y1), (5, V.int .i64 y2)] [Ob.nrow [] 103 y3 y4] = some r := ofX (j := 0) (F := fun s => T38l1 (orc C s.k) s.k s.m 0 0 y1 y2 y3 y4) (fs0 fun k m => e38l1 k m 0 0 y1 y2 y3 y4) (by
  unfold T38l1
  repeat' first | with_reducible exact cC | with_reducible refine cN cQ fun _ => ?_ | with_reducible refine cT fun _ => ?_ | with_reducible refine cI fun _ => ?_ | with_reducible refine cM ?_ | with_reducible refine cF ?_ ?_ | with_reducible refine cO fun _ _ => ?_ | with_reducible refine cP fun _ _ => ?_ | with_reducible refine cN cC fun _ => ?_ | with_reducible exact cQ | exact cX0 gM) h

noncomputable def T126 (O : Orc) (k m q0 q1 : Nat) (y1 : Int) (y2 : Int) (y3 : Nat) (y4 : List V) (y5 : Nat) (y6 : List V) (y7 : Nat) (y8 : List V) (y9 : Nat) (y10 : List V) (y11 : Int) (y12 : Bool)
 (y13 : Nat) (y14 : List V) (y15 : Int) (y16 : Int) : Option V := need (O.R 0 199 [V.agg [V.int .i64 y1, V.int .i64 y2, V.sl y3 y4, V.sl y5 y6, V.sl y7 y8], V.int .i64 y16]) fun x1 => asTup (some x1)
 fun x2 => PI.asInt .i64 x2[0]? fun x3 => bif decide (x3 < 0) then some (V.tup [V.int .i64 (-1)]) else need (O.R 0 200 [V.sl y9 y10, V.int .i64 x3]) fun x4 => asTup (some x4) fun x5 => PI.asInt .i64
 x5[0]? fun x6 => bif decide (x6 < 0) then some (V.tup [V.int .i64 (-1)]) else need (O.R 0 201 [V.sl y13 y14, V.int .i64 x6]) fun x7 => asTup (some x7) fun x8 => PI.asInt .i64 x8[0]? fun x9 => bif
 decide (x9 < 0) then some (V.tup [V.int .i64 (-1)]) else some (V.tup [V.int .i64 x9])
theorem e126 (k m q0 q1 : Nat) (y1 : Int) (y2 : Int) (y3 : Nat) (y4 : List V) (y5 : Nat) (y6 : List V) (y7 : Nat) (y8 : List V) (y9 : Nat) (y10 : List V) (y11 : Int) (y12 : Bool) (y13 : Nat) (y14 :
 List V) (y15 : Int) (y16 : Int) : runV C (k + 1) 126 [V.agg [V.int .i64 y1, V.int .i64 y2, V.sl y3 y4, V.sl y5 y6, V.sl y7 y8, V.sl y9 y10, V.int .i64 y11, V.bool y12, V.sl y13 y14, V.int .i64 y15],
 V.int .i64 y16] = T126 (orc C k) k m q0 q1 y1 y2 y3 y4 y5 y6 y7 y8 y9 y10 y11 y12 y13 y14 y15 y16 := by kernel_rfl
theorem E126 (y1 : Int) (y2 : Int) (y3 : Nat) (y4 : List V) (y5 : Nat) (y6 : List V) (y7 : Nat) (y8 : List V) (y9 : Nat) (y10 : List V) (y11 : Int) (y12 : Bool) (y13 : Nat) (y14 : List V) (y15 : Int)
 (y16 : Int) {r : V} (h : T126 (orcE C) 0 0 0 0 y1 y2 y3 y4 y5 y6 y7 y8 y9 y10 y11 y12 y13 y14 y15 y16 = some r) : runE C 126 [V.agg [V.int .i64 y1, V.int .i64 y2, V.sl y3 y4, V.sl y5 y6, V.sl y7 y8,
 V.sl y9 y10, V.int .i64 y11, V.bool y12, V.sl y13 y14, V.int .i64 y15], V.int .i64 y16] = some r := ofR (F := fun s => T126 (orc C s.k) s.k s.m 0 0 y1 y2 y3 y4 y5 y6 y7 y8 y9 y10 y11 y12 y13 y14 y15
 y16) (fun k => e126 k k 0 0 y1 y2 y3 y4 y5 y6 y7 y8 y9 y10 y11 y12 y13 y14 y15 y16) (by
  unfold T126
  repeat' first | with_reducible exact cC | with_reducible refine cN cR fun _ => ?_ | with_reducible refine cT fun _ => ?_ | with_reducible refine cI fun _ => ?_ | with_reducible refine cF ?_ ?_ | with_reducible refine cN cC fun _ => ?_ | with_reducible exact cR) h

noncomputable def T66l1 (O : Orc) (k m q0 q1 : Nat) (y1 : Nat) (y2 : List V) (y3 : Int) (y4 : Int) : Option V := bif decide (y4 < (↑y1 : Int)) then must (inB y4 y1) (must (decide (y4.toNat * 1 <
 y2.length)) (asSl y2[y4.toNat * 1]? fun x1 x2 => need (O.R 0 115 [V.sl x1 x2, V.int .i64 y3]) fun x3 => asTup (some x3) fun x4 => PI.asInt .i64 x4[0]? fun x5 => bif decide (x5 < 0) then some (V.tup
 [V.int .i64 (-1)]) else O.L 0 66 0 [true, true, true, false, true] [] m [(0, V.sl y1 y2), (1, V.int .i64 x5), (5, V.int .i64 (IntKind.i64.wrap (y4 + 1)))] [])) else some (V.tup [V.int .i64 y3])
theorem e66l1 (k m q0 q1 : Nat) (y1 : Nat) (y2 : List V) (y3 : Int) (y4 : Int) : runL C k 66 0 [true, true, true, false, true] [] (m + 1) [(0, V.sl y1 y2), (1, V.int .i64 y3), (5, V.int .i64 y4)] [] =
 T66l1 (orc C k) k m q0 q1 y1 y2 y3 y4 := by kernel_rfl
theorem E66l1 (y1 : Nat) (y2 : List V) (y3 : Int) (y4 : Int) {r : V} (h : T66l1 (orcE C) 0 0 0 0 y1 y2 y3 y4 = some r) : loopE C 66 0 [true, true, true, false, true] [] [(0, V.sl y1 y2), (1, V.int .i64
 y3), (5, V.int .i64 y4)] [] = some r := ofL (j := 0) (F := fun s => T66l1 (orc C s.k) s.k s.m 0 0 y1 y2 y3 y4) (fs0 fun k m => e66l1 k m 0 0 y1 y2 y3 y4) (by
  unfold T66l1
  repeat' first | with_reducible exact cC | with_reducible refine cN cR fun _ => ?_ | with_reducible refine cT fun _ => ?_ | with_reducible refine cI fun _ => ?_ | with_reducible refine cM ?_ | with_reducible refine cF ?_ ?_ | with_reducible refine cL fun _ _ => ?_ | with_reducible refine cN cC fun _ => ?_ | with_reducible exact cR | exact cD0 gM) h

noncomputable def T116 (O : Orc) (k m q0 q1 : Nat) (y1 : Nat) (y2 : List V) (y3 : Int) (y4 : Int) : Option V := need (O.R 0 115 [V.sl y1 y2, V.int .i64 y4]) fun x1 => asTup (some x1) fun x2 => PI.asInt
 .i64 x2[0]? fun x3 => bif decide (x3 < 0) then some (V.tup [V.int .i64 (-1)]) else some (V.tup [V.int .i64 x3])
theorem e116 (k m q0 q1 : Nat) (y1 : Nat) (y2 : List V) (y3 : Int) (y4 : Int) : runV C (k + 1) 116 [V.agg [V.sl y1 y2, V.int .i64 y3], V.int .i64 y4] = T116 (orc C k) k m q0 q1 y1 y2 y3 y4 := by
 kernel_rfl
theorem E116 (y1 : Nat) (y2 : List V) (y3 : Int) (y4 : Int) {r : V} (h : T116 (orcE C) 0 0 0 0 y1 y2 y3 y4 = some r) : runE C 116 [V.agg [V.sl y1 y2, V.int .i64 y3], V.int .i64 y4] = some r := ofR (F
 := fun s => T116 (orc C s.k) s.k s.m 0 0 y1 y2 y3 y4) (fun k => e116 k k 0 0 y1 y2 y3 y4) (by
  unfold T116
  repeat' first | with_reducible exact cC | with_reducible refine cN cR fun _ => ?_ | with_reducible refine cT fun _ => ?_ | with_reducible refine cI fun _ => ?_ | with_reducible refine cF ?_ ?_ | with_reducible refine cN cC fun _ => ?_ | with_reducible exact cR) h

noncomputable def T67l1 (O : Orc) (k m q0 q1 : Nat) (y1 : Nat) (y2 : List V) (y3 : Int) (y4 : Nat) (y5 : List V) : Option V := bif decide (y3 < (↑y1 : Int)) then must (inB y3 y1) (must (decide
 (y3.toNat * 1 < y2.length)) (asSl y2[y3.toNat * 1]? fun x1 x2 => need (O.R 0 119 [V.sl x1 x2]) fun x3 => asTup (some x3) fun x4 => asOsl x4[0]? fun x5 x6 => must (inB y3 y4) (must (x6.all flatV) (must
 ([V.own false 5 1 x5 x6].length.beq 1 && (y3.toNat * 1 + [V.own false 5 1 x5 x6].length).ble y5.length) (O.L 0 67 0 [true, true, false, true] [] m [(0, V.sl y1 y2), (3, V.ref 0), (4, V.int .i64
 (IntKind.i64.wrap (y3 + 1)))] [Ob.nrow [] 22 y4 (splice y5 (y3.toNat * 1) [V.own false 5 1 x5 x6])]))))) else some (V.tup [V.osl y4 y5])
theorem e67l1 (k m q0 q1 : Nat) (y1 : Nat) (y2 : List V) (y3 : Int) (y4 : Nat) (y5 : List V) : runL C k 67 0 [true, true, false, true] [] (m + 1) [(0, V.sl y1 y2), (3, V.ref 0), (4, V.int .i64 y3)]
 [Ob.nrow [] 22 y4 y5] = T67l1 (orc C k) k m q0 q1 y1 y2 y3 y4 y5 := by kernel_rfl
theorem E67l1 (y1 : Nat) (y2 : List V) (y3 : Int) (y4 : Nat) (y5 : List V) {r : V} (h : T67l1 (orcE C) 0 0 0 0 y1 y2 y3 y4 y5 = some r) : loopE C 67 0 [true, true, false, true] [] [(0, V.sl y1 y2), (3,
 V.ref 0), (4, V.int .i64 y3)] [Ob.nrow [] 22 y4 y5] = some r := ofL (j := 0) (F := fun s => T67l1 (orc C s.k) s.k s.m 0 0 y1 y2 y3 y4 y5) (fs0 fun k m => e67l1 k m 0 0 y1 y2 y3 y4 y5) (by
  unfold T67l1
  repeat' first | with_reducible exact cC | with_reducible refine cN cR fun _ => ?_ | with_reducible refine cT fun _ => ?_ | with_reducible refine cM ?_ | with_reducible refine cF ?_ ?_ | with_reducible refine cL fun _ _ => ?_ | with_reducible refine cO fun _ _ => ?_ | with_reducible refine cN cC fun _ => ?_ | with_reducible exact cR | exact cD0 gM) h

noncomputable def T119l1 (O : Orc) (k m q0 q1 : Nat) (y1 : Nat) (y2 : List V) (y3 : Int) (y4 : Nat) (y5 : List V) : Option V := bif decide (y3 < (↑y1 : Int)) then must (inB y3 y1) (PI.asInt .u8
 y2[y3.toNat * 1]? fun x1 => must (inB y3 y4) (must ([V.int .u8 x1].length.beq 1 && (y3.toNat * 1 + [V.int .u8 x1].length).ble y5.length) (O.L 0 119 0 [true, true, false, true] [] m [(0, V.sl y1 y2),
 (3, V.ref 0), (4, V.int .i64 (IntKind.i64.wrap (y3 + 1)))] [Ob.row 5 y4 (splice y5 (y3.toNat * 1) [V.int .u8 x1]) false]))) else must (false || y5.all flatV) (some (V.tup [V.osl y4 y5]))
theorem e119l1 (k m q0 q1 : Nat) (y1 : Nat) (y2 : List V) (y3 : Int) (y4 : Nat) (y5 : List V) : runL C k 119 0 [true, true, false, true] [] (m + 1) [(0, V.sl y1 y2), (3, V.ref 0), (4, V.int .i64 y3)]
 [Ob.row 5 y4 y5 false] = T119l1 (orc C k) k m q0 q1 y1 y2 y3 y4 y5 := by kernel_rfl
theorem E119l1 (y1 : Nat) (y2 : List V) (y3 : Int) (y4 : Nat) (y5 : List V) {r : V} (h : T119l1 (orcE C) 0 0 0 0 y1 y2 y3 y4 y5 = some r) : loopE C 119 0 [true, true, false, true] [] [(0, V.sl y1 y2),
 (3, V.ref 0), (4, V.int .i64 y3)] [Ob.row 5 y4 y5 false] = some r := ofL (j := 0) (F := fun s => T119l1 (orc C s.k) s.k s.m 0 0 y1 y2 y3 y4 y5) (fs0 fun k m => e119l1 k m 0 0 y1 y2 y3 y4 y5) (by
  unfold T119l1
  repeat' first | with_reducible exact cC | with_reducible refine cI fun _ => ?_ | with_reducible refine cM ?_ | with_reducible refine cF ?_ ?_ | exact cD0 gM) h

noncomputable def T120 (O : Orc) (k m q0 q1 : Nat) (y1 : Nat) (y2 : List V) (y3 : Int) : Option V := need (O.R 0 119 [V.sl y1 y2]) fun x1 => asTup (some x1) fun x2 => asOsl x2[0]? fun x3 x4 => must
 (false || x4.all flatV) (some (V.tup [V.osl x3 x4, V.int .i64 y3]))
theorem e120 (k m q0 q1 : Nat) (y1 : Nat) (y2 : List V) (y3 : Int) : runV C (k + 1) 120 [V.agg [V.sl y1 y2, V.int .i64 y3]] = T120 (orc C k) k m q0 q1 y1 y2 y3 := by kernel_rfl
theorem E120 (y1 : Nat) (y2 : List V) (y3 : Int) {r : V} (h : T120 (orcE C) 0 0 0 0 y1 y2 y3 = some r) : runE C 120 [V.agg [V.sl y1 y2, V.int .i64 y3]] = some r := ofR (F := fun s => T120 (orc C s.k)
 s.k s.m 0 0 y1 y2 y3) (fun k => e120 k k 0 0 y1 y2 y3) (by
  unfold T120
  repeat' first | with_reducible exact cC | with_reducible refine cN cR fun _ => ?_ | with_reducible refine cT fun _ => ?_ | with_reducible refine cM ?_ | with_reducible refine cO fun _ _ => ?_ | with_reducible refine cN cC fun _ => ?_ | with_reducible exact cR) h

noncomputable def T143 (O : Orc) (k m q0 q1 : Nat) (y1 : Int) (y2 : Int) (y3 : Nat) (y4 : List V) (y5 : Nat) (y6 : List V) (y7 : Nat) (y8 : List V) : Option V := bif (↑y3 : Int) != 32 then some (V.tup
 [V.int .i64 1]) else bif (↑y5 : Int) != 32 then some (V.tup [V.int .i64 1]) else bif (↑y7 : Int) != 32 then some (V.tup [V.int .i64 1]) else need (O.R 0 103 [V.int .i64 y1, V.int .i64 1, V.int .i64
 1000000]) fun x1 => asTup (some x1) fun x2 => PI.asBool x2[0]? fun x3 => bif !x3 then some (V.tup [V.int .i64 3]) else need (O.R 0 103 [V.int .i64 y2, V.int .i64 0, V.int .i64 1099511627776]) fun x4
 => asTup (some x4) fun x5 => PI.asBool x5[0]? fun x6 => bif !x6 then some (V.tup [V.int .i64 3]) else some (V.tup [V.int .i64 0])
theorem e143 (k m q0 q1 : Nat) (y1 : Int) (y2 : Int) (y3 : Nat) (y4 : List V) (y5 : Nat) (y6 : List V) (y7 : Nat) (y8 : List V) : runV C (k + 1) 143 [V.agg [V.int .i64 y1, V.int .i64 y2, V.sl y3 y4,
 V.sl y5 y6, V.sl y7 y8]] = T143 (orc C k) k m q0 q1 y1 y2 y3 y4 y5 y6 y7 y8 := by kernel_rfl
theorem E143 (y1 : Int) (y2 : Int) (y3 : Nat) (y4 : List V) (y5 : Nat) (y6 : List V) (y7 : Nat) (y8 : List V) {r : V} (h : T143 (orcE C) 0 0 0 0 y1 y2 y3 y4 y5 y6 y7 y8 = some r) : runE C 143 [V.agg
 [V.int .i64 y1, V.int .i64 y2, V.sl y3 y4, V.sl y5 y6, V.sl y7 y8]] = some r := ofR (F := fun s => T143 (orc C s.k) s.k s.m 0 0 y1 y2 y3 y4 y5 y6 y7 y8) (fun k => e143 k k 0 0 y1 y2 y3 y4 y5 y6 y7 y8)
 (by
  unfold T143
  repeat' first | with_reducible exact cC | with_reducible refine cN cR fun _ => ?_ | with_reducible refine cT fun _ => ?_ | with_reducible refine cF ?_ ?_ | with_reducible refine cB fun _ => ?_ | with_reducible refine cN cC fun _ => ?_ | with_reducible exact cR) h

noncomputable def T190 (O : Orc) (k m q0 q1 : Nat) (y1 : Nat) (y2 : List V) : Option V := bif (↑y1 : Int) == 0 then some (V.tup [V.int .i64 4]) else bif decide ((↑y1 : Int) > 5) then some (V.tup [V.int
 .i64 2]) else O.L 0 190 0 [true, true, true, false, true] [] k [(0, V.sl y1 y2), (3, V.int .i64 0)] []
theorem e190 (k m q0 q1 : Nat) (y1 : Nat) (y2 : List V) : runV C (k + 1) 190 [V.sl y1 y2] = T190 (orc C k) k m q0 q1 y1 y2 := by kernel_rfl
theorem E190 (y1 : Nat) (y2 : List V) {r : V} (h : T190 (orcE C) 0 0 0 0 y1 y2 = some r) : runE C 190 [V.sl y1 y2] = some r := ofR (F := fun s => T190 (orc C s.k) s.k s.m 0 0 y1 y2) (fun k => e190 k k
 0 0 y1 y2) (by
  unfold T190
  repeat' first | with_reducible exact cC | with_reducible refine cF ?_ ?_ | exact cD0 gK) h

noncomputable def T191 (O : Orc) (k m q0 q1 : Nat) (y1 : Nat) (y2 : List V) : Option V := O.L 0 191 0 [true, true, false, true] [] k [(0, V.sl y1 y2), (3, V.ref 0), (4, V.int .i64 0)] [Ob.row 22 0 []
 false]
theorem e191 (k m q0 q1 : Nat) (y1 : Nat) (y2 : List V) : runV C (k + 1) 191 [V.sl y1 y2] = T191 (orc C k) k m q0 q1 y1 y2 := by kernel_rfl
theorem E191 (y1 : Nat) (y2 : List V) {r : V} (h : T191 (orcE C) 0 0 0 0 y1 y2 = some r) : runE C 191 [V.sl y1 y2] = some r := ofR (F := fun s => T191 (orc C s.k) s.k s.m 0 0 y1 y2) (fun k => e191 k k
 0 0 y1 y2) (by
  unfold T191
  repeat' first | with_reducible exact cC | exact cD0 gK) h

noncomputable def T176 (O : Orc) (k m q0 q1 : Nat) (y1 : Nat) (y2 : List V) (y3 : Nat) (y4 : List V) : Option V := need (O.R 0 243 [V.sl y1 y2, V.sl y3 y4]) fun x1 => asTup (some x1) fun x2 => PI.asInt
 .i64 x2[0]? fun x3 => some (V.tup [V.bool (x3 == 0)])
theorem e176 (k m q0 q1 : Nat) (y1 : Nat) (y2 : List V) (y3 : Nat) (y4 : List V) : runV C (k + 1) 176 [V.sl y1 y2, V.sl y3 y4] = T176 (orc C k) k m q0 q1 y1 y2 y3 y4 := by kernel_rfl
theorem E176 (y1 : Nat) (y2 : List V) (y3 : Nat) (y4 : List V) {r : V} (h : T176 (orcE C) 0 0 0 0 y1 y2 y3 y4 = some r) : runE C 176 [V.sl y1 y2, V.sl y3 y4] = some r := ofR (F := fun s => T176 (orc C
 s.k) s.k s.m 0 0 y1 y2 y3 y4) (fun k => e176 k k 0 0 y1 y2 y3 y4) (by
  unfold T176
  repeat' first | with_reducible exact cC | with_reducible refine cN cR fun _ => ?_ | with_reducible refine cT fun _ => ?_ | with_reducible refine cI fun _ => ?_ | with_reducible refine cN cC fun _ => ?_ | with_reducible exact cR) h

noncomputable def T103 (O : Orc) (k m q0 q1 : Nat) (y1 : Int) (y2 : Int) (y3 : Int) : Option V := bif decide (y1 ≥ y2) then some (V.tup [V.bool (decide (y1 ≤ y3))]) else some (V.tup [V.bool false])
theorem e103 (k m q0 q1 : Nat) (y1 : Int) (y2 : Int) (y3 : Int) : runV C (k + 1) 103 [V.int .i64 y1, V.int .i64 y2, V.int .i64 y3] = T103 (orc C k) k m q0 q1 y1 y2 y3 := by kernel_rfl
theorem E103 (y1 : Int) (y2 : Int) (y3 : Int) {r : V} (h : T103 (orcE C) 0 0 0 0 y1 y2 y3 = some r) : runE C 103 [V.int .i64 y1, V.int .i64 y2, V.int .i64 y3] = some r := ofR (F := fun s => T103 (orc C
 s.k) s.k s.m 0 0 y1 y2 y3) (fun k => e103 k k 0 0 y1 y2 y3) (by
  unfold T103
  repeat' first | with_reducible exact cC | with_reducible refine cF ?_ ?_) h

noncomputable def T117l1 (O : Orc) (k m q0 q1 : Nat) (y1 : Int) (y2 : Int) (y3 : Int) (y4 : Int) (y5 : Nat) (y6 : List V) (y7 : Nat) (y8 : List V) (y9 : Nat) (y10 : List V) (y11 : Nat) (y12 : List V)
 (y13 : Int) (y14 : Bool) (y15 : Nat) (y16 : List V) (y17 : Int) : Option V := bif decide (y2 < y1) then must (inB y2 y15) (must (decide (y2.toNat * 1 < y16.length)) (asSl y16[y2.toNat * 1]? fun x1 x2
 => bif (↑x1 : Int) != 32 then must (inB y2 y15) (must (decide (y2.toNat * 1 < y16.length)) (asSl y16[y2.toNat * 1]? fun x3 x4 => bif (↑x3 : Int) != 0 then some (V.tup [V.int .i64 1]) else O.L 0 117 0
 [true, true, true, true, true, true, true, true, false, true] [] m [(1, V.ptr 0 0), (5, V.int .i64 y1), (6, V.int .i64 (IntKind.i64.wrap (y2 + 1)))] [Ob.box 64 [V.int .i64 y3, V.int .i64 y4, V.sl y5
 y6, V.sl y7 y8, V.sl y9 y10, V.sl y11 y12, V.int .i64 y13, V.bool y14, V.sl y15 y16, V.int .i64 y17] false])) else O.L 0 117 0 [true, true, true, true, true, true, true, true, false, true] [] m [(1,
 V.ptr 0 0), (5, V.int .i64 y1), (6, V.int .i64 (IntKind.i64.wrap (y2 + 1)))] [Ob.box 64 [V.int .i64 y3, V.int .i64 y4, V.sl y5 y6, V.sl y7 y8, V.sl y9 y10, V.sl y11 y12, V.int .i64 y13, V.bool y14,
 V.sl y15 y16, V.int .i64 y17] false])) else must (inB (IntKind.i64.wrap (y1 - 1)) y15) (must (decide ((IntKind.i64.wrap (y1 - 1)).toNat * 1 < y16.length)) (asSl y16[(IntKind.i64.wrap (y1 - 1)).toNat *
 1]? fun x5 x6 => need (O.R 0 176 [V.sl x5 x6, V.sl y5 y6]) fun x7 => asTup (some x7) fun x8 => PI.asBool x8[0]? fun x9 => bif !x9 then some (V.tup [V.int .i64 1]) else some (V.tup [V.int .i64 0])))
theorem e117l1 (k m q0 q1 : Nat) (y1 : Int) (y2 : Int) (y3 : Int) (y4 : Int) (y5 : Nat) (y6 : List V) (y7 : Nat) (y8 : List V) (y9 : Nat) (y10 : List V) (y11 : Nat) (y12 : List V) (y13 : Int) (y14 :
 Bool) (y15 : Nat) (y16 : List V) (y17 : Int) : runL C k 117 0 [true, true, true, true, true, true, true, true, false, true] [] (m + 1) [(1, V.ptr 0 0), (5, V.int .i64 y1), (6, V.int .i64 y2)] [Ob.box
 64 [V.int .i64 y3, V.int .i64 y4, V.sl y5 y6, V.sl y7 y8, V.sl y9 y10, V.sl y11 y12, V.int .i64 y13, V.bool y14, V.sl y15 y16, V.int .i64 y17] false] = T117l1 (orc C k) k m q0 q1 y1 y2 y3 y4 y5 y6 y7
 y8 y9 y10 y11 y12 y13 y14 y15 y16 y17 := by kernel_rfl
theorem E117l1 (y1 : Int) (y2 : Int) (y3 : Int) (y4 : Int) (y5 : Nat) (y6 : List V) (y7 : Nat) (y8 : List V) (y9 : Nat) (y10 : List V) (y11 : Nat) (y12 : List V) (y13 : Int) (y14 : Bool) (y15 : Nat)
 (y16 : List V) (y17 : Int) {r : V} (h : T117l1 (orcE C) 0 0 0 0 y1 y2 y3 y4 y5 y6 y7 y8 y9 y10 y11 y12 y13 y14 y15 y16 y17 = some r) : loopE C 117 0 [true, true, true, true, true, true, true, true,
 false, true] [] [(1, V.ptr 0 0), (5, V.int .i64 y1), (6, V.int .i64 y2)] [Ob.box 64 [V.int .i64 y3, V.int .i64 y4, V.sl y5 y6, V.sl y7 y8, V.sl y9 y10, V.sl y11 y12, V.int .i64 y13, V.bool y14, V.sl
 y15 y16, V.int .i64 y17] false] = some r := ofL (j := 0) (F := fun s => T117l1 (orc C s.k) s.k s.m 0 0 y1 y2 y3 y4 y5 y6 y7 y8 y9 y10 y11 y12 y13 y14 y15 y16 y17) (fs0 fun k m => e117l1 k m 0 0 y1 y2
 y3 y4 y5 y6 y7 y8 y9 y10 y11 y12 y13 y14 y15 y16 y17) (by
  unfold T117l1
  repeat' first | with_reducible exact cC | with_reducible refine cN cR fun _ => ?_ | with_reducible refine cT fun _ => ?_ | with_reducible refine cM ?_ | with_reducible refine cF ?_ ?_ | with_reducible refine cB fun _ => ?_ | with_reducible refine cL fun _ _ => ?_ | with_reducible refine cN cC fun _ => ?_ | with_reducible exact cR | exact cD0 gM) h

noncomputable def T118 (O : Orc) (k m q0 q1 : Nat) (y1 : Int) (y2 : Int) (y3 : Nat) (y4 : List V) (y5 : Nat) (y6 : List V) (y7 : Nat) (y8 : List V) (y9 : Nat) (y10 : List V) (y11 : Int) (y12 : Bool)
 (y13 : Nat) (y14 : List V) (y15 : Int) : Option V := need (O.R 0 192 [V.agg [V.int .i64 y1, V.int .i64 y2, V.sl y3 y4, V.sl y5 y6, V.sl y7 y8]]) fun x1 => asTup (some x1) fun x2 => PI.asInt .i64
 x2[0]? fun x3 => PI.asInt .i64 x2[1]? fun x4 => asSl x2[2]? fun x5 x6 => asSl x2[3]? fun x7 x8 => asSl x2[4]? fun x9 x10 => need (O.R 0 193 [V.sl y9 y10]) fun x11 => asTup (some x11) fun x12 => asSl
 x12[0]? fun x13 x14 => need (O.R 0 194 [V.sl y13 y14]) fun x15 => asTup (some x15) fun x16 => asSl x16[0]? fun x17 x18 => some (V.tup [V.int .i64 x3, V.int .i64 x4, V.sl x5 x6, V.sl x7 x8, V.sl x9
 x10, V.sl x13 x14, V.int .i64 y11, V.bool y12, V.sl x17 x18, V.int .i64 y15])
theorem e118 (k m q0 q1 : Nat) (y1 : Int) (y2 : Int) (y3 : Nat) (y4 : List V) (y5 : Nat) (y6 : List V) (y7 : Nat) (y8 : List V) (y9 : Nat) (y10 : List V) (y11 : Int) (y12 : Bool) (y13 : Nat) (y14 :
 List V) (y15 : Int) : runV C (k + 1) 118 [V.agg [V.int .i64 y1, V.int .i64 y2, V.sl y3 y4, V.sl y5 y6, V.sl y7 y8, V.sl y9 y10, V.int .i64 y11, V.bool y12, V.sl y13 y14, V.int .i64 y15]] = T118 (orc C
 k) k m q0 q1 y1 y2 y3 y4 y5 y6 y7 y8 y9 y10 y11 y12 y13 y14 y15 := by kernel_rfl
theorem E118 (y1 : Int) (y2 : Int) (y3 : Nat) (y4 : List V) (y5 : Nat) (y6 : List V) (y7 : Nat) (y8 : List V) (y9 : Nat) (y10 : List V) (y11 : Int) (y12 : Bool) (y13 : Nat) (y14 : List V) (y15 : Int)
 {r : V} (h : T118 (orcE C) 0 0 0 0 y1 y2 y3 y4 y5 y6 y7 y8 y9 y10 y11 y12 y13 y14 y15 = some r) : runE C 118 [V.agg [V.int .i64 y1, V.int .i64 y2, V.sl y3 y4, V.sl y5 y6, V.sl y7 y8, V.sl y9 y10,
 V.int .i64 y11, V.bool y12, V.sl y13 y14, V.int .i64 y15]] = some r := ofR (F := fun s => T118 (orc C s.k) s.k s.m 0 0 y1 y2 y3 y4 y5 y6 y7 y8 y9 y10 y11 y12 y13 y14 y15) (fun k => e118 k k 0 0 y1 y2
 y3 y4 y5 y6 y7 y8 y9 y10 y11 y12 y13 y14 y15) (by
  unfold T118
  repeat' first | with_reducible exact cC | with_reducible refine cN cR fun _ => ?_ | with_reducible refine cT fun _ => ?_ | with_reducible refine cI fun _ => ?_ | with_reducible refine cL fun _ _ => ?_ | with_reducible refine cN cC fun _ => ?_ | with_reducible exact cR) h

noncomputable def T136 (O : Orc) (k m q0 q1 : Nat) (y1 : Int) (y2 : Int) (y3 : Nat) (y4 : List V) (y5 : Nat) (y6 : List V) (y7 : Nat) (y8 : List V) : Option V := need (O.R 0 180 [V.sl 3 [V.sl y3 y4,
 V.sl y5 y6, V.sl y7 y8]]) fun x1 => asTup (some x1) fun x2 => PI.asBool x2[0]? fun x3 => bif !x3 then some (V.tup [V.int .i64 1]) else need (O.R 0 92 [V.int .i64 y1, V.int .i64 1, V.int .i64 1000000])
 fun x4 => asTup (some x4) fun x5 => PI.asBool x5[0]? fun x6 => bif !x6 then some (V.tup [V.int .i64 3]) else need (O.R 0 92 [V.int .i64 y2, V.int .i64 0, V.int .i64 1099511627776]) fun x7 => asTup
 (some x7) fun x8 => PI.asBool x8[0]? fun x9 => bif !x9 then some (V.tup [V.int .i64 3]) else some (V.tup [V.int .i64 0])
theorem e136 (k m q0 q1 : Nat) (y1 : Int) (y2 : Int) (y3 : Nat) (y4 : List V) (y5 : Nat) (y6 : List V) (y7 : Nat) (y8 : List V) : runV C (k + 1) 136 [V.agg [V.int .i64 y1, V.int .i64 y2, V.sl y3 y4,
 V.sl y5 y6, V.sl y7 y8]] = T136 (orc C k) k m q0 q1 y1 y2 y3 y4 y5 y6 y7 y8 := by kernel_rfl
theorem E136 (y1 : Int) (y2 : Int) (y3 : Nat) (y4 : List V) (y5 : Nat) (y6 : List V) (y7 : Nat) (y8 : List V) {r : V} (h : T136 (orcE C) 0 0 0 0 y1 y2 y3 y4 y5 y6 y7 y8 = some r) : runE C 136 [V.agg
 [V.int .i64 y1, V.int .i64 y2, V.sl y3 y4, V.sl y5 y6, V.sl y7 y8]] = some r := ofR (F := fun s => T136 (orc C s.k) s.k s.m 0 0 y1 y2 y3 y4 y5 y6 y7 y8) (fun k => e136 k k 0 0 y1 y2 y3 y4 y5 y6 y7 y8)
 (by
  unfold T136
  repeat' first | with_reducible exact cC | with_reducible refine cN cR fun _ => ?_ | with_reducible refine cT fun _ => ?_ | with_reducible refine cF ?_ ?_ | with_reducible refine cB fun _ => ?_ | with_reducible refine cN cC fun _ => ?_ | with_reducible exact cR) h

noncomputable def T147 (O : Orc) (k m q0 q1 : Nat) (y1 : Nat) (y2 : List V) : Option V := bif (↑y1 : Int) == 0 then some (V.tup [V.int .i64 4]) else bif decide ((↑y1 : Int) > 5) then some (V.tup [V.int
 .i64 2]) else O.L 0 147 1 [true, true, false, true] [] k [(0, V.sl y1 y2), (13, V.sl y1 y2), (14, V.int .i64 (↑y1 : Int)), (15, V.int .i64 0)] []
theorem e147 (k m q0 q1 : Nat) (y1 : Nat) (y2 : List V) : runV C (k + 1) 147 [V.sl y1 y2] = T147 (orc C k) k m q0 q1 y1 y2 := by kernel_rfl
theorem E147 (y1 : Nat) (y2 : List V) {r : V} (h : T147 (orcE C) 0 0 0 0 y1 y2 = some r) : runE C 147 [V.sl y1 y2] = some r := ofR (F := fun s => T147 (orc C s.k) s.k s.m 0 0 y1 y2) (fun k => e147 k k
 0 0 y1 y2) (by
  unfold T147
  repeat' first | with_reducible exact cC | with_reducible refine cF ?_ ?_ | exact cD0 gK) h

noncomputable def T148 (O : Orc) (k m q0 q1 : Nat) (y1 : Nat) (y2 : List V) : Option V := O.L 0 148 0 [true, true, false, true] [] k [(3, V.ref 0), (7, V.sl y1 y2), (8, V.int .i64 (↑y1 : Int)), (9,
 V.int .i64 0)] [Ob.row 22 0 [] false]
theorem e148 (k m q0 q1 : Nat) (y1 : Nat) (y2 : List V) : runV C (k + 1) 148 [V.sl y1 y2] = T148 (orc C k) k m q0 q1 y1 y2 := by kernel_rfl
theorem E148 (y1 : Nat) (y2 : List V) {r : V} (h : T148 (orcE C) 0 0 0 0 y1 y2 = some r) : runE C 148 [V.sl y1 y2] = some r := ofR (F := fun s => T148 (orc C s.k) s.k s.m 0 0 y1 y2) (fun k => e148 k k
 0 0 y1 y2) (by
  unfold T148
  repeat' first | with_reducible exact cC | exact cD0 gK) h

noncomputable def T107 (O : Orc) (k m q0 q1 : Nat) (y1 : Nat) (y2 : List V) (y3 : Nat) (y4 : List V) : Option V := must (y2.length.beq y1 && y2.all isU8) (must (y4.length.beq y3 && y4.all isU8) (some
 (V.tup [V.bool (strEq (packB y2) (packB y4))])))
theorem e107 (k m q0 q1 : Nat) (y1 : Nat) (y2 : List V) (y3 : Nat) (y4 : List V) : runV C (k + 1) 107 [V.sl y1 y2, V.sl y3 y4] = T107 (orc C k) k m q0 q1 y1 y2 y3 y4 := by kernel_rfl
theorem E107 (y1 : Nat) (y2 : List V) (y3 : Nat) (y4 : List V) {r : V} (h : T107 (orcE C) 0 0 0 0 y1 y2 y3 y4 = some r) : runE C 107 [V.sl y1 y2, V.sl y3 y4] = some r := ofR (F := fun s => T107 (orc C
 s.k) s.k s.m 0 0 y1 y2 y3 y4) (fun k => e107 k k 0 0 y1 y2 y3 y4) (by
  unfold T107
  repeat' first | with_reducible exact cC | with_reducible refine cM ?_) h

noncomputable def T92 (O : Orc) (k m q0 q1 : Nat) (y1 : Int) (y2 : Int) (y3 : Int) : Option V := bif decide (y2 ≤ y1) then some (V.tup [V.bool (decide (y1 ≤ y3))]) else some (V.tup [V.bool false])
theorem e92 (k m q0 q1 : Nat) (y1 : Int) (y2 : Int) (y3 : Int) : runV C (k + 1) 92 [V.int .i64 y1, V.int .i64 y2, V.int .i64 y3] = T92 (orc C k) k m q0 q1 y1 y2 y3 := by kernel_rfl
theorem E92 (y1 : Int) (y2 : Int) (y3 : Int) {r : V} (h : T92 (orcE C) 0 0 0 0 y1 y2 y3 = some r) : runE C 92 [V.int .i64 y1, V.int .i64 y2, V.int .i64 y3] = some r := ofR (F := fun s => T92 (orc C
 s.k) s.k s.m 0 0 y1 y2 y3) (fun k => e92 k k 0 0 y1 y2 y3) (by
  unfold T92
  repeat' first | with_reducible exact cC | with_reducible refine cF ?_ ?_) h

noncomputable def T211 (O : Orc) (k m q0 q1 : Nat) (y1 : Nat) (y2 : List V) : Option V := O.L 0 211 0 [true, false, true] [] k [(0, V.sl y1 y2), (1, V.fn 195 []), (7, V.int .i64 (↑y1 : Int)), (8, V.int
 .i64 0)] []
theorem e211 (k m q0 q1 : Nat) (y1 : Nat) (y2 : List V) : runV C (k + 1) 211 [V.sl y1 y2, V.fn 195 []] = T211 (orc C k) k m q0 q1 y1 y2 := by kernel_rfl
theorem E211 (y1 : Nat) (y2 : List V) {r : V} (h : T211 (orcE C) 0 0 0 0 y1 y2 = some r) : runE C 211 [V.sl y1 y2, V.fn 195 []] = some r := ofR (F := fun s => T211 (orc C s.k) s.k s.m 0 0 y1 y2) (fun k
 => e211 k k 0 0 y1 y2) (by
  unfold T211
  repeat' first | with_reducible exact cC | exact cD0 gK) h

noncomputable def T122 (O : Orc) (k m q0 q1 : Nat) (y1 : Int) (y2 : Int) (y3 : Nat) (y4 : List V) (y5 : Nat) (y6 : List V) (y7 : Nat) (y8 : List V) (y9 : Nat) (y10 : List V) (y11 : Int) (y12 : Bool)
 (y13 : Nat) (y14 : List V) (y15 : Int) : Option V := both (both (need (O.R 0 140 [V.agg [V.int .i64 y1, V.int .i64 y2, V.sl y3 y4, V.sl y5 y6, V.sl y7 y8]]) fun x1 => asTup (some x1) fun x2 =>
 PI.asInt .i64 x2[0]? fun x3 => PI.asInt .i64 x2[1]? fun x4 => asOsl x2[2]? fun x5 x6 => asOsl x2[3]? fun x7 x8 => asOsl x2[4]? fun x9 x10 => both (both (need (O.R 0 197 [V.sl y9 y10]) fun x11 => asTup
 (some x11) fun x12 => asOsl x12[0]? fun x13 x14 => need (O.R 0 198 [V.sl y13 y14]) fun x15 => asTup (some x15) fun x16 => asOsl x16[0]? fun x17 x18 => must (false || x6.all flatV) (must (false ||
 x8.all flatV) (must (false || x10.all flatV) (some (V.tup [V.int .i64 x3, V.int .i64 x4, V.osl x5 x6, V.osl x7 x8, V.osl x9 x10, V.osl x13 x14, V.int .i64 y11, V.bool y12, V.osl x17 x18, V.int .i64
 y15]))))) (need (O.R 0 197 [V.sl y9 y10]) fun x19 => asTup (some x19) fun x20 => asOsl x20[0]? fun x21 x22 => need (O.R 0 198 [V.sl y13 y14]) fun x23 => asTup (some x23) fun x24 => asOsl x24[0]? fun
 x25 x26 => must (false || x6.all flatV) (must (false || x8.all flatV) (must (false || x10.all flatV) (some (V.tup [V.int .i64 x3, V.int .i64 x4, V.osl x5 x6, V.osl x7 x8, V.osl x9 x10, V.osl x21 x22,
 V.int .i64 y11, V.bool y12, V.osl x25 x26, V.int .i64 y15])))))) (need (O.R 0 197 [V.sl y9 y10]) fun x27 => asTup (some x27) fun x28 => asOsl x28[0]? fun x29 x30 => need (O.R 0 198 [V.sl y13 y14]) fun
 x31 => asTup (some x31) fun x32 => asOsl x32[0]? fun x33 x34 => must (false || x6.all flatV) (must (false || x8.all flatV) (must (false || x10.all flatV) (some (V.tup [V.int .i64 x3, V.int .i64 x4,
 V.osl x5 x6, V.osl x7 x8, V.osl x9 x10, V.osl x29 x30, V.int .i64 y11, V.bool y12, V.osl x33 x34, V.int .i64 y15])))))) (both (both (need (O.R 0 140 [V.agg [V.int .i64 y1, V.int .i64 y2, V.sl y3 y4,
 V.sl y5 y6, V.sl y7 y8]]) fun x35 => asTup (some x35) fun x36 => PI.asInt .i64 x36[0]? fun x37 => PI.asInt .i64 x36[1]? fun x38 => asOsl x36[2]? fun x39 x40 => asOsl x36[3]? fun x41 x42 => asOsl
 x36[4]? fun x43 x44 => both (need (O.R 0 197 [V.sl y9 y10]) fun x45 => asTup (some x45) fun x46 => asOsl x46[0]? fun x47 x48 => need (O.R 0 198 [V.sl y13 y14]) fun x49 => asTup (some x49) fun x50 =>
 asOsl x50[0]? fun x51 x52 => must (false || x40.all flatV) (must (false || x42.all flatV) (must (false || x44.all flatV) (some (V.tup [V.int .i64 x37, V.int .i64 x38, V.osl x39 x40, V.osl x41 x42,
 V.osl x43 x44, V.osl x47 x48, V.int .i64 y11, V.bool y12, V.osl x51 x52, V.int .i64 y15]))))) (need (O.R 0 197 [V.sl y9 y10]) fun x53 => asTup (some x53) fun x54 => asOsl x54[0]? fun x55 x56 => need
 (O.R 0 198 [V.sl y13 y14]) fun x57 => asTup (some x57) fun x58 => asOsl x58[0]? fun x59 x60 => must (false || x40.all flatV) (must (false || x42.all flatV) (must (false || x44.all flatV) (some (V.tup
 [V.int .i64 x37, V.int .i64 x38, V.osl x39 x40, V.osl x41 x42, V.osl x43 x44, V.osl x55 x56, V.int .i64 y11, V.bool y12, V.osl x59 x60, V.int .i64 y15])))))) (need (O.R 0 140 [V.agg [V.int .i64 y1,
 V.int .i64 y2, V.sl y3 y4, V.sl y5 y6, V.sl y7 y8]]) fun x61 => asTup (some x61) fun x62 => PI.asInt .i64 x62[0]? fun x63 => PI.asInt .i64 x62[1]? fun x64 => asOsl x62[2]? fun x65 x66 => asOsl x62[3]?
 fun x67 x68 => asOsl x62[4]? fun x69 x70 => need (O.R 0 197 [V.sl y9 y10]) fun x71 => asTup (some x71) fun x72 => asOsl x72[0]? fun x73 x74 => need (O.R 0 198 [V.sl y13 y14]) fun x75 => asTup (some
 x75) fun x76 => asOsl x76[0]? fun x77 x78 => must (false || x66.all flatV) (must (false || x68.all flatV) (must (false || x70.all flatV) (some (V.tup [V.int .i64 x63, V.int .i64 x64, V.osl x65 x66,
 V.osl x67 x68, V.osl x69 x70, V.osl x73 x74, V.int .i64 y11, V.bool y12, V.osl x77 x78, V.int .i64 y15])))))) (both (need (O.R 0 140 [V.agg [V.int .i64 y1, V.int .i64 y2, V.sl y3 y4, V.sl y5 y6, V.sl
 y7 y8]]) fun x79 => asTup (some x79) fun x80 => PI.asInt .i64 x80[0]? fun x81 => PI.asInt .i64 x80[1]? fun x82 => asOsl x80[2]? fun x83 x84 => asOsl x80[3]? fun x85 x86 => asOsl x80[4]? fun x87 x88 =>
 need (O.R 0 197 [V.sl y9 y10]) fun x89 => asTup (some x89) fun x90 => asOsl x90[0]? fun x91 x92 => need (O.R 0 198 [V.sl y13 y14]) fun x93 => asTup (some x93) fun x94 => asOsl x94[0]? fun x95 x96 =>
 must (false || x84.all flatV) (must (false || x86.all flatV) (must (false || x88.all flatV) (some (V.tup [V.int .i64 x81, V.int .i64 x82, V.osl x83 x84, V.osl x85 x86, V.osl x87 x88, V.osl x91 x92,
 V.int .i64 y11, V.bool y12, V.osl x95 x96, V.int .i64 y15]))))) (need (O.R 0 140 [V.agg [V.int .i64 y1, V.int .i64 y2, V.sl y3 y4, V.sl y5 y6, V.sl y7 y8]]) fun x97 => asTup (some x97) fun x98 =>
 PI.asInt .i64 x98[0]? fun x99 => PI.asInt .i64 x98[1]? fun x100 => asOsl x98[2]? fun x101 x102 => asOsl x98[3]? fun x103 x104 => asOsl x98[4]? fun x105 x106 => need (O.R 0 197 [V.sl y9 y10]) fun x107
 => asTup (some x107) fun x108 => asOsl x108[0]? fun x109 x110 => need (O.R 0 198 [V.sl y13 y14]) fun x111 => asTup (some x111) fun x112 => asOsl x112[0]? fun x113 x114 => must (false || x102.all
 flatV) (must (false || x104.all flatV) (must (false || x106.all flatV) (some (V.tup [V.int .i64 x99, V.int .i64 x100, V.osl x101 x102, V.osl x103 x104, V.osl x105 x106, V.osl x109 x110, V.int .i64
 y11, V.bool y12, V.osl x113 x114, V.int .i64 y15])))))))) (both (both (both (need (O.R 0 140 [V.agg [V.int .i64 y1, V.int .i64 y2, V.sl y3 y4, V.sl y5 y6, V.sl y7 y8]]) fun x115 => asTup (some x115)
 fun x116 => PI.asInt .i64 x116[0]? fun x117 => PI.asInt .i64 x116[1]? fun x118 => asOsl x116[2]? fun x119 x120 => asOsl x116[3]? fun x121 x122 => asOsl x116[4]? fun x123 x124 => both (need (O.R 0 197
 [V.sl y9 y10]) fun x125 => asTup (some x125) fun x126 => asOsl x126[0]? fun x127 x128 => need (O.R 0 198 [V.sl y13 y14]) fun x129 => asTup (some x129) fun x130 => asOsl x130[0]? fun x131 x132 => must
 (false || x120.all flatV) (must (false || x122.all flatV) (must (false || x124.all flatV) (some (V.tup [V.int .i64 x117, V.int .i64 x118, V.osl x119 x120, V.osl x121 x122, V.osl x123 x124, V.osl x127
 x128, V.int .i64 y11, V.bool y12, V.osl x131 x132, V.int .i64 y15]))))) (need (O.R 0 197 [V.sl y9 y10]) fun x133 => asTup (some x133) fun x134 => asOsl x134[0]? fun x135 x136 => need (O.R 0 198 [V.sl
 y13 y14]) fun x137 => asTup (some x137) fun x138 => asOsl x138[0]? fun x139 x140 => must (false || x120.all flatV) (must (false || x122.all flatV) (must (false || x124.all flatV) (some (V.tup [V.int
 .i64 x117, V.int .i64 x118, V.osl x119 x120, V.osl x121 x122, V.osl x123 x124, V.osl x135 x136, V.int .i64 y11, V.bool y12, V.osl x139 x140, V.int .i64 y15])))))) (need (O.R 0 140 [V.agg [V.int .i64
 y1, V.int .i64 y2, V.sl y3 y4, V.sl y5 y6, V.sl y7 y8]]) fun x141 => asTup (some x141) fun x142 => PI.asInt .i64 x142[0]? fun x143 => PI.asInt .i64 x142[1]? fun x144 => asOsl x142[2]? fun x145 x146 =>
 asOsl x142[3]? fun x147 x148 => asOsl x142[4]? fun x149 x150 => need (O.R 0 197 [V.sl y9 y10]) fun x151 => asTup (some x151) fun x152 => asOsl x152[0]? fun x153 x154 => need (O.R 0 198 [V.sl y13 y14])
 fun x155 => asTup (some x155) fun x156 => asOsl x156[0]? fun x157 x158 => must (false || x146.all flatV) (must (false || x148.all flatV) (must (false || x150.all flatV) (some (V.tup [V.int .i64 x143,
 V.int .i64 x144, V.osl x145 x146, V.osl x147 x148, V.osl x149 x150, V.osl x153 x154, V.int .i64 y11, V.bool y12, V.osl x157 x158, V.int .i64 y15])))))) (need (O.R 0 140 [V.agg [V.int .i64 y1, V.int
 .i64 y2, V.sl y3 y4, V.sl y5 y6, V.sl y7 y8]]) fun x159 => asTup (some x159) fun x160 => PI.asInt .i64 x160[0]? fun x161 => PI.asInt .i64 x160[1]? fun x162 => asOsl x160[2]? fun x163 x164 => asOsl
 x160[3]? fun x165 x166 => asOsl x160[4]? fun x167 x168 => need (O.R 0 197 [V.sl y9 y10]) fun x169 => asTup (some x169) fun x170 => asOsl x170[0]? fun x171 x172 => need (O.R 0 198 [V.sl y13 y14]) fun
 x173 => asTup (some x173) fun x174 => asOsl x174[0]? fun x175 x176 => must (false || x164.all flatV) (must (false || x166.all flatV) (must (false || x168.all flatV) (some (V.tup [V.int .i64 x161,
 V.int .i64 x162, V.osl x163 x164, V.osl x165 x166, V.osl x167 x168, V.osl x171 x172, V.int .i64 y11, V.bool y12, V.osl x175 x176, V.int .i64 y15])))))) (both (both (need (O.R 0 140 [V.agg [V.int .i64
 y1, V.int .i64 y2, V.sl y3 y4, V.sl y5 y6, V.sl y7 y8]]) fun x177 => asTup (some x177) fun x178 => PI.asInt .i64 x178[0]? fun x179 => PI.asInt .i64 x178[1]? fun x180 => asOsl x178[2]? fun x181 x182 =>
 asOsl x178[3]? fun x183 x184 => asOsl x178[4]? fun x185 x186 => need (O.R 0 197 [V.sl y9 y10]) fun x187 => asTup (some x187) fun x188 => asOsl x188[0]? fun x189 x190 => need (O.R 0 198 [V.sl y13 y14])
 fun x191 => asTup (some x191) fun x192 => asOsl x192[0]? fun x193 x194 => must (false || x182.all flatV) (must (false || x184.all flatV) (must (false || x186.all flatV) (some (V.tup [V.int .i64 x179,
 V.int .i64 x180, V.osl x181 x182, V.osl x183 x184, V.osl x185 x186, V.osl x189 x190, V.int .i64 y11, V.bool y12, V.osl x193 x194, V.int .i64 y15]))))) (need (O.R 0 140 [V.agg [V.int .i64 y1, V.int
 .i64 y2, V.sl y3 y4, V.sl y5 y6, V.sl y7 y8]]) fun x195 => asTup (some x195) fun x196 => PI.asInt .i64 x196[0]? fun x197 => PI.asInt .i64 x196[1]? fun x198 => asOsl x196[2]? fun x199 x200 => asOsl
 x196[3]? fun x201 x202 => asOsl x196[4]? fun x203 x204 => need (O.R 0 197 [V.sl y9 y10]) fun x205 => asTup (some x205) fun x206 => asOsl x206[0]? fun x207 x208 => need (O.R 0 198 [V.sl y13 y14]) fun
 x209 => asTup (some x209) fun x210 => asOsl x210[0]? fun x211 x212 => must (false || x200.all flatV) (must (false || x202.all flatV) (must (false || x204.all flatV) (some (V.tup [V.int .i64 x197,
 V.int .i64 x198, V.osl x199 x200, V.osl x201 x202, V.osl x203 x204, V.osl x207 x208, V.int .i64 y11, V.bool y12, V.osl x211 x212, V.int .i64 y15])))))) (need (O.R 0 140 [V.agg [V.int .i64 y1, V.int
 .i64 y2, V.sl y3 y4, V.sl y5 y6, V.sl y7 y8]]) fun x213 => asTup (some x213) fun x214 => PI.asInt .i64 x214[0]? fun x215 => PI.asInt .i64 x214[1]? fun x216 => asOsl x214[2]? fun x217 x218 => asOsl
 x214[3]? fun x219 x220 => asOsl x214[4]? fun x221 x222 => need (O.R 0 197 [V.sl y9 y10]) fun x223 => asTup (some x223) fun x224 => asOsl x224[0]? fun x225 x226 => need (O.R 0 198 [V.sl y13 y14]) fun
 x227 => asTup (some x227) fun x228 => asOsl x228[0]? fun x229 x230 => must (false || x218.all flatV) (must (false || x220.all flatV) (must (false || x222.all flatV) (some (V.tup [V.int .i64 x215,
 V.int .i64 x216, V.osl x217 x218, V.osl x219 x220, V.osl x221 x222, V.osl x225 x226, V.int .i64 y11, V.bool y12, V.osl x229 x230, V.int .i64 y15])))))))
theorem e122 (k m q0 q1 : Nat) (y1 : Int) (y2 : Int) (y3 : Nat) (y4 : List V) (y5 : Nat) (y6 : List V) (y7 : Nat) (y8 : List V) (y9 : Nat) (y10 : List V) (y11 : Int) (y12 : Bool) (y13 : Nat) (y14 :
 List V) (y15 : Int) : runV C (k + 1) 122 [V.agg [V.int .i64 y1, V.int .i64 y2, V.sl y3 y4, V.sl y5 y6, V.sl y7 y8, V.sl y9 y10, V.int .i64 y11, V.bool y12, V.sl y13 y14, V.int .i64 y15]] = T122 (orc C
 k) k m q0 q1 y1 y2 y3 y4 y5 y6 y7 y8 y9 y10 y11 y12 y13 y14 y15 := by kernel_rfl
theorem E122 (y1 : Int) (y2 : Int) (y3 : Nat) (y4 : List V) (y5 : Nat) (y6 : List V) (y7 : Nat) (y8 : List V) (y9 : Nat) (y10 : List V) (y11 : Int) (y12 : Bool) (y13 : Nat) (y14 : List V) (y15 : Int)
 {r : V} (h : T122 (orcE C) 0 0 0 0 y1 y2 y3 y4 y5 y6 y7 y8 y9 y10 y11 y12 y13 y14 y15 = some r) : runE C 122 [V.agg [V.int .i64 y1, V.int .i64 y2, V.sl y3 y4, V.sl y5 y6, V.sl y7 y8, V.sl y9 y10,
 V.int .i64 y11, V.bool y12, V.sl y13 y14, V.int .i64 y15]] = some r := ofR (F := fun s => T122 (orc C s.k) s.k s.m 0 0 y1 y2 y3 y4 y5 y6 y7 y8 y9 y10 y11 y12 y13 y14 y15) (fun k => e122 k k 0 0 y1 y2
 y3 y4 y5 y6 y7 y8 y9 y10 y11 y12 y13 y14 y15) (by
  unfold T122
  repeat' first | with_reducible exact cC | with_reducible refine cN cR fun _ => ?_ | with_reducible refine cT fun _ => ?_ | with_reducible refine cI fun _ => ?_ | with_reducible refine cM ?_ | with_reducible refine cO fun _ _ => ?_ | with_reducible refine cN cC fun _ => ?_ | with_reducible refine cW ?_ ?_ | with_reducible exact cR) h

noncomputable def T70l1 (O : Orc) (k m q0 q1 : Nat) (y1 : Nat) (y2 : List V) (y3 : Nat) (y4 : List V) (y5 : Int) : Option V := bif decide (y5 < (↑y1 : Int)) then must (inB y5 y1) (must (decide
 (y5.toNat * 1 < y2.length)) (must (inB y5 y3) (must (decide (y5.toNat * 1 < y4.length)) (asSl y2[y5.toNat * 1]? fun x1 x2 => asSl y4[y5.toNat * 1]? fun x3 x4 => need (O.R 0 123 [V.sl x1 x2, V.sl x3
 x4]) fun x5 => asTup (some x5) fun x6 => PI.asBool x6[0]? fun x7 => bif !x7 then some (V.tup [V.bool false]) else O.L 0 70 0 [true, true, false, true] [] m [(0, V.sl y1 y2), (1, V.sl y3 y4), (5, V.int
 .i64 (IntKind.i64.wrap (y5 + 1)))] [])))) else some (V.tup [V.bool true])
theorem e70l1 (k m q0 q1 : Nat) (y1 : Nat) (y2 : List V) (y3 : Nat) (y4 : List V) (y5 : Int) : runL C k 70 0 [true, true, false, true] [] (m + 1) [(0, V.sl y1 y2), (1, V.sl y3 y4), (5, V.int .i64 y5)]
 [] = T70l1 (orc C k) k m q0 q1 y1 y2 y3 y4 y5 := by kernel_rfl
theorem E70l1 (y1 : Nat) (y2 : List V) (y3 : Nat) (y4 : List V) (y5 : Int) {r : V} (h : T70l1 (orcE C) 0 0 0 0 y1 y2 y3 y4 y5 = some r) : loopE C 70 0 [true, true, false, true] [] [(0, V.sl y1 y2), (1,
 V.sl y3 y4), (5, V.int .i64 y5)] [] = some r := ofL (j := 0) (F := fun s => T70l1 (orc C s.k) s.k s.m 0 0 y1 y2 y3 y4 y5) (fs0 fun k m => e70l1 k m 0 0 y1 y2 y3 y4 y5) (by
  unfold T70l1
  repeat' first | with_reducible exact cC | with_reducible refine cN cR fun _ => ?_ | with_reducible refine cT fun _ => ?_ | with_reducible refine cM ?_ | with_reducible refine cF ?_ ?_ | with_reducible refine cB fun _ => ?_ | with_reducible refine cL fun _ _ => ?_ | with_reducible refine cN cC fun _ => ?_ | with_reducible exact cR | exact cD0 gM) h

noncomputable def T123l1 (O : Orc) (k m q0 q1 : Nat) (y1 : Nat) (y2 : List V) (y3 : Nat) (y4 : List V) (y5 : Int) : Option V := bif decide (y5 < (↑y1 : Int)) then must (inB y5 y1) (PI.asInt .u8
 y2[y5.toNat * 1]? fun x1 => must (inB y5 y3) (PI.asInt .u8 y4[y5.toNat * 1]? fun x2 => bif x1 != x2 then some (V.tup [V.bool false]) else O.L 0 123 0 [true, true, false, true] [] m [(0, V.sl y1 y2),
 (1, V.sl y3 y4), (5, V.int .i64 (IntKind.i64.wrap (y5 + 1)))] [])) else some (V.tup [V.bool true])
theorem e123l1 (k m q0 q1 : Nat) (y1 : Nat) (y2 : List V) (y3 : Nat) (y4 : List V) (y5 : Int) : runL C k 123 0 [true, true, false, true] [] (m + 1) [(0, V.sl y1 y2), (1, V.sl y3 y4), (5, V.int .i64
 y5)] [] = T123l1 (orc C k) k m q0 q1 y1 y2 y3 y4 y5 := by kernel_rfl
theorem E123l1 (y1 : Nat) (y2 : List V) (y3 : Nat) (y4 : List V) (y5 : Int) {r : V} (h : T123l1 (orcE C) 0 0 0 0 y1 y2 y3 y4 y5 = some r) : loopE C 123 0 [true, true, false, true] [] [(0, V.sl y1 y2),
 (1, V.sl y3 y4), (5, V.int .i64 y5)] [] = some r := ofL (j := 0) (F := fun s => T123l1 (orc C s.k) s.k s.m 0 0 y1 y2 y3 y4 y5) (fs0 fun k m => e123l1 k m 0 0 y1 y2 y3 y4 y5) (by
  unfold T123l1
  repeat' first | with_reducible exact cC | with_reducible refine cI fun _ => ?_ | with_reducible refine cM ?_ | with_reducible refine cF ?_ ?_ | exact cD0 gM) h

noncomputable def T124 (O : Orc) (k m q0 q1 : Nat) (y1 : Nat) (y2 : List V) (y3 : Int) (y4 : Nat) (y5 : List V) (y6 : Int) : Option V := need (O.R 0 123 [V.sl y1 y2, V.sl y4 y5]) fun x1 => asTup (some
 x1) fun x2 => PI.asBool x2[0]? fun x3 => bif !x3 then some (V.tup [V.bool false]) else bif y3 != y6 then some (V.tup [V.bool false]) else some (V.tup [V.bool true])
theorem e124 (k m q0 q1 : Nat) (y1 : Nat) (y2 : List V) (y3 : Int) (y4 : Nat) (y5 : List V) (y6 : Int) : runV C (k + 1) 124 [V.agg [V.sl y1 y2, V.int .i64 y3], V.agg [V.sl y4 y5, V.int .i64 y6]] = T124
 (orc C k) k m q0 q1 y1 y2 y3 y4 y5 y6 := by kernel_rfl
theorem E124 (y1 : Nat) (y2 : List V) (y3 : Int) (y4 : Nat) (y5 : List V) (y6 : Int) {r : V} (h : T124 (orcE C) 0 0 0 0 y1 y2 y3 y4 y5 y6 = some r) : runE C 124 [V.agg [V.sl y1 y2, V.int .i64 y3],
 V.agg [V.sl y4 y5, V.int .i64 y6]] = some r := ofR (F := fun s => T124 (orc C s.k) s.k s.m 0 0 y1 y2 y3 y4 y5 y6) (fun k => e124 k k 0 0 y1 y2 y3 y4 y5 y6) (by
  unfold T124
  repeat' first | with_reducible exact cC | with_reducible refine cN cR fun _ => ?_ | with_reducible refine cT fun _ => ?_ | with_reducible refine cF ?_ ?_ | with_reducible refine cB fun _ => ?_ | with_reducible refine cN cC fun _ => ?_ | with_reducible exact cR) h

noncomputable def T72l1 (O : Orc) (k m q0 q1 : Nat) (y1 : Int) (y2 : Int) (y3 : Nat) (y4 : List V) : Option V := bif decide (y2 < (↑y3 : Int)) then must (inB y2 y3) (asOwn false 5 1 y4[y2.toNat * 1]?
 fun x1 x2 => need (O.W 0 125 [0] [V.ref 0, V.int .i64 y1] [Ob.row 5 x1 x2 false]) fun x3 => asTup (some x3) fun x4 => PI.asInt .i64 x4[0]? fun x5 => asOsl x4[1]? fun x6 x7 => must (x7.all flatV) (O.X
 0 72 [0] [Ob.nrow [] 22 0 []] 0 [true, false, true] [] m [(0, V.ref 0), (1, V.int .i64 x5), (5, V.int .i64 (IntKind.i64.wrap (y2 + 1)))] [Ob.nrow [] 22 y3 (y4.set (y2.toNat * 1) (V.own false 5 1 x6
 x7))])) else some (V.tup [V.int .i64 y1, V.osl y3 y4])
theorem e72l1 (k m q0 q1 : Nat) (y1 : Int) (y2 : Int) (y3 : Nat) (y4 : List V) : runLW C k 72 [0] [Ob.nrow [] 22 0 []] 0 [true, false, true] [] (m + 1) [(0, V.ref 0), (1, V.int .i64 y1), (5, V.int .i64
 y2)] [Ob.nrow [] 22 y3 y4] = T72l1 (orc C k) k m q0 q1 y1 y2 y3 y4 := by kernel_rfl
theorem E72l1 (y1 : Int) (y2 : Int) (y3 : Nat) (y4 : List V) {r : V} (h : T72l1 (orcE C) 0 0 0 0 y1 y2 y3 y4 = some r) : loopWE C 72 [0] [Ob.nrow [] 22 0 []] 0 [true, false, true] [] [(0, V.ref 0), (1,
 V.int .i64 y1), (5, V.int .i64 y2)] [Ob.nrow [] 22 y3 y4] = some r := ofX (j := 0) (F := fun s => T72l1 (orc C s.k) s.k s.m 0 0 y1 y2 y3 y4) (fs0 fun k m => e72l1 k m 0 0 y1 y2 y3 y4) (by
  unfold T72l1
  repeat' first | with_reducible exact cC | with_reducible refine cN cQ fun _ => ?_ | with_reducible refine cT fun _ => ?_ | with_reducible refine cI fun _ => ?_ | with_reducible refine cM ?_ | with_reducible refine cF ?_ ?_ | with_reducible refine cO fun _ _ => ?_ | with_reducible refine cP fun _ _ => ?_ | with_reducible refine cN cC fun _ => ?_ | with_reducible exact cQ | exact cX0 gM) h

noncomputable def T125l1 (O : Orc) (k m q0 q1 : Nat) (y1 : Int) (y2 : Int) (y3 : Nat) (y4 : List V) : Option V := bif decide (y2 < (↑y3 : Int)) then must (inB y2 y3) (must ([V.int .u8 (IntKind.u8.wrap
 y1)].length.beq 1 && (y2.toNat * 1 + [V.int .u8 (IntKind.u8.wrap y1)].length).ble y4.length) (O.X 0 125 [0] [Ob.row 5 0 [] false] 0 [true, false, true] [] m [(0, V.ref 0), (1, V.int .i64
 (IntKind.i64.wrap (y1 + 1))), (5, V.int .i64 (IntKind.i64.wrap (y2 + 1)))] [Ob.row 5 y3 (splice y4 (y2.toNat * 1) [V.int .u8 (IntKind.u8.wrap y1)]) false])) else must (false || y4.all flatV) (some
 (V.tup [V.int .i64 y1, V.osl y3 y4]))
theorem e125l1 (k m q0 q1 : Nat) (y1 : Int) (y2 : Int) (y3 : Nat) (y4 : List V) : runLW C k 125 [0] [Ob.row 5 0 [] false] 0 [true, false, true] [] (m + 1) [(0, V.ref 0), (1, V.int .i64 y1), (5, V.int
 .i64 y2)] [Ob.row 5 y3 y4 false] = T125l1 (orc C k) k m q0 q1 y1 y2 y3 y4 := by kernel_rfl
theorem E125l1 (y1 : Int) (y2 : Int) (y3 : Nat) (y4 : List V) {r : V} (h : T125l1 (orcE C) 0 0 0 0 y1 y2 y3 y4 = some r) : loopWE C 125 [0] [Ob.row 5 0 [] false] 0 [true, false, true] [] [(0, V.ref 0),
 (1, V.int .i64 y1), (5, V.int .i64 y2)] [Ob.row 5 y3 y4 false] = some r := ofX (j := 0) (F := fun s => T125l1 (orc C s.k) s.k s.m 0 0 y1 y2 y3 y4) (fs0 fun k m => e125l1 k m 0 0 y1 y2 y3 y4) (by
  unfold T125l1
  repeat' first | with_reducible exact cC | with_reducible refine cM ?_ | with_reducible refine cF ?_ ?_ | exact cX0 gM) h

noncomputable def T199 (O : Orc) (k m q0 q1 : Nat) (y1 : Int) (y2 : Int) (y3 : Nat) (y4 : List V) (y5 : Nat) (y6 : List V) (y7 : Nat) (y8 : List V) (y9 : Int) : Option V := need (O.R 0 254 [V.sl y3 y4,
 V.int .i64 y9]) fun x1 => asTup (some x1) fun x2 => PI.asInt .i64 x2[0]? fun x3 => bif decide (x3 < 0) then some (V.tup [V.int .i64 (-1)]) else need (O.R 0 254 [V.sl y5 y6, V.int .i64 x3]) fun x4 =>
 asTup (some x4) fun x5 => PI.asInt .i64 x5[0]? fun x6 => bif decide (x6 < 0) then some (V.tup [V.int .i64 (-1)]) else need (O.R 0 254 [V.sl y7 y8, V.int .i64 x6]) fun x7 => asTup (some x7) fun x8 =>
 PI.asInt .i64 x8[0]? fun x9 => bif decide (x9 < 0) then some (V.tup [V.int .i64 (-1)]) else some (V.tup [V.int .i64 x9])
theorem e199 (k m q0 q1 : Nat) (y1 : Int) (y2 : Int) (y3 : Nat) (y4 : List V) (y5 : Nat) (y6 : List V) (y7 : Nat) (y8 : List V) (y9 : Int) : runV C (k + 1) 199 [V.agg [V.int .i64 y1, V.int .i64 y2,
 V.sl y3 y4, V.sl y5 y6, V.sl y7 y8], V.int .i64 y9] = T199 (orc C k) k m q0 q1 y1 y2 y3 y4 y5 y6 y7 y8 y9 := by kernel_rfl
theorem E199 (y1 : Int) (y2 : Int) (y3 : Nat) (y4 : List V) (y5 : Nat) (y6 : List V) (y7 : Nat) (y8 : List V) (y9 : Int) {r : V} (h : T199 (orcE C) 0 0 0 0 y1 y2 y3 y4 y5 y6 y7 y8 y9 = some r) : runE C
 199 [V.agg [V.int .i64 y1, V.int .i64 y2, V.sl y3 y4, V.sl y5 y6, V.sl y7 y8], V.int .i64 y9] = some r := ofR (F := fun s => T199 (orc C s.k) s.k s.m 0 0 y1 y2 y3 y4 y5 y6 y7 y8 y9) (fun k => e199 k k
 0 0 y1 y2 y3 y4 y5 y6 y7 y8 y9) (by
  unfold T199
  repeat' first | with_reducible exact cC | with_reducible refine cN cR fun _ => ?_ | with_reducible refine cT fun _ => ?_ | with_reducible refine cI fun _ => ?_ | with_reducible refine cF ?_ ?_ | with_reducible refine cN cC fun _ => ?_ | with_reducible exact cR) h

noncomputable def T200 (O : Orc) (k m q0 q1 : Nat) (y1 : Nat) (y2 : List V) (y3 : Int) : Option V := O.L 0 200 0 [true, false, true] [] k [(0, V.sl y1 y2), (1, V.int .i64 y3), (5, V.int .i64 0)] []
theorem e200 (k m q0 q1 : Nat) (y1 : Nat) (y2 : List V) (y3 : Int) : runV C (k + 1) 200 [V.sl y1 y2, V.int .i64 y3] = T200 (orc C k) k m q0 q1 y1 y2 y3 := by kernel_rfl
theorem E200 (y1 : Nat) (y2 : List V) (y3 : Int) {r : V} (h : T200 (orcE C) 0 0 0 0 y1 y2 y3 = some r) : runE C 200 [V.sl y1 y2, V.int .i64 y3] = some r := ofR (F := fun s => T200 (orc C s.k) s.k s.m 0
 0 y1 y2 y3) (fun k => e200 k k 0 0 y1 y2 y3) (by
  unfold T200
  repeat' first | with_reducible exact cC | exact cD0 gK) h

noncomputable def T201 (O : Orc) (k m q0 q1 : Nat) (y1 : Nat) (y2 : List V) (y3 : Int) : Option V := O.L 0 201 0 [true, false, true] [] k [(0, V.sl y1 y2), (1, V.int .i64 y3), (5, V.int .i64 0)] []
theorem e201 (k m q0 q1 : Nat) (y1 : Nat) (y2 : List V) (y3 : Int) : runV C (k + 1) 201 [V.sl y1 y2, V.int .i64 y3] = T201 (orc C k) k m q0 q1 y1 y2 y3 := by kernel_rfl
theorem E201 (y1 : Nat) (y2 : List V) (y3 : Int) {r : V} (h : T201 (orcE C) 0 0 0 0 y1 y2 y3 = some r) : runE C 201 [V.sl y1 y2, V.int .i64 y3] = some r := ofR (F := fun s => T201 (orc C s.k) s.k s.m 0
 0 y1 y2 y3) (fun k => e201 k k 0 0 y1 y2 y3) (by
  unfold T201
  repeat' first | with_reducible exact cC | exact cD0 gK) h

noncomputable def T190l1 (O : Orc) (k m q0 q1 : Nat) (y1 : Nat) (y2 : List V) (y3 : Int) : Option V := bif decide (y3 < (↑y1 : Int)) then must (inB y3 y1) (must (decide (y3.toNat * 2 + 0 < y2.length))
 (asSl y2[y3.toNat * 2 + 0]? fun x1 x2 => bif (↑x1 : Int) != 32 then some (V.tup [V.int .i64 1]) else must (inB y3 y1) (PI.asInt .i64 y2[y3.toNat * 2 + 1]? fun x3 => need (O.R 0 103 [V.int .i64 x3,
 V.int .i64 1, V.int .i64 1000]) fun x4 => asTup (some x4) fun x5 => PI.asBool x5[0]? fun x6 => bif !x6 then some (V.tup [V.int .i64 3]) else O.L 0 190 2 [true, true, true, false, true, false, true,
 false, false, true, true, true] [m] k [(0, V.sl y1 y2), (3, V.int .i64 y3), (4, V.int .i64 0)] []))) else some (V.tup [V.int .i64 0])
theorem e190l1 (k m q0 q1 : Nat) (y1 : Nat) (y2 : List V) (y3 : Int) : runL C k 190 0 [true, true, true, false, true] [] (m + 1) [(0, V.sl y1 y2), (3, V.int .i64 y3)] [] = T190l1 (orc C k) k m q0 q1 y1
 y2 y3 := by kernel_rfl
theorem E190l1 (y1 : Nat) (y2 : List V) (y3 : Int) {r : V} (h : T190l1 (orcE C) 0 0 0 0 y1 y2 y3 = some r) : loopE C 190 0 [true, true, true, false, true] [] [(0, V.sl y1 y2), (3, V.int .i64 y3)] [] =
 some r := ofL (j := 0) (F := fun s => T190l1 (orc C s.k) s.k s.m 0 0 y1 y2 y3) (fs0 fun k m => e190l1 k m 0 0 y1 y2 y3) (by
  unfold T190l1
  repeat' first | with_reducible exact cC | with_reducible refine cN cR fun _ => ?_ | with_reducible refine cT fun _ => ?_ | with_reducible refine cI fun _ => ?_ | with_reducible refine cM ?_ | with_reducible refine cF ?_ ?_ | with_reducible refine cB fun _ => ?_ | with_reducible refine cL fun _ _ => ?_ | with_reducible refine cN cC fun _ => ?_ | with_reducible exact cR | exact cD1 gK gM) h

noncomputable def T191l1 (O : Orc) (k m q0 q1 : Nat) (y1 : Nat) (y2 : List V) (y3 : Int) (y4 : Nat) (y5 : List V) : Option V := bif decide (y3 < (↑y1 : Int)) then must (inB y3 y1) (must (decide
 (y3.toNat * 2 + 0 < y2.length)) (must (inB y3 y1) (PI.asInt .i64 y2[y3.toNat * 2 + 1]? fun x1 => need (O.R 0 188 [V.int .i64 x1]) fun x2 => asTup (some x2) fun x3 => asSl x3[0]? fun x4 x5 => asSl
 y2[y3.toNat * 2 + 0]? fun x6 x7 => must (true && (y4 + 2).ble 140737488355328 && ((y4 + 2) * 24).ble 140737488355328) (O.L 0 191 0 [true, true, false, true] [] m [(0, V.sl y1 y2), (3, V.ref 0), (4,
 V.int .i64 (IntKind.i64.wrap (y3 + 1)))] [Ob.row 22 (y4 + 2) (y5 ++ [V.sl x6 x7, V.sl x4 x5]) false])))) else need (O.R 0 111 [V.sl y4 y5]) fun x8 => asTup (some x8) fun x9 => asSl x9[0]? fun x10 x11
 => need (O.R 0 244 [V.str { data := #[(115 : UInt8), (101 : UInt8), (116 : UInt8)] }, V.sl x10 x11]) fun x12 => asTup (some x12) fun x13 => asSl x13[0]? fun x14 x15 => some (V.tup [V.sl x14 x15])
theorem e191l1 (k m q0 q1 : Nat) (y1 : Nat) (y2 : List V) (y3 : Int) (y4 : Nat) (y5 : List V) : runL C k 191 0 [true, true, false, true] [] (m + 1) [(0, V.sl y1 y2), (3, V.ref 0), (4, V.int .i64 y3)]
 [Ob.row 22 y4 y5 false] = T191l1 (orc C k) k m q0 q1 y1 y2 y3 y4 y5 := by kernel_rfl
theorem E191l1 (y1 : Nat) (y2 : List V) (y3 : Int) (y4 : Nat) (y5 : List V) {r : V} (h : T191l1 (orcE C) 0 0 0 0 y1 y2 y3 y4 y5 = some r) : loopE C 191 0 [true, true, false, true] [] [(0, V.sl y1 y2),
 (3, V.ref 0), (4, V.int .i64 y3)] [Ob.row 22 y4 y5 false] = some r := ofL (j := 0) (F := fun s => T191l1 (orc C s.k) s.k s.m 0 0 y1 y2 y3 y4 y5) (fs0 fun k m => e191l1 k m 0 0 y1 y2 y3 y4 y5) (by
  unfold T191l1
  repeat' first | with_reducible exact cC | with_reducible refine cN cR fun _ => ?_ | with_reducible refine cT fun _ => ?_ | with_reducible refine cI fun _ => ?_ | with_reducible refine cM ?_ | with_reducible refine cF ?_ ?_ | with_reducible refine cL fun _ _ => ?_ | with_reducible refine cN cC fun _ => ?_ | with_reducible exact cR | exact cD0 gM) h

noncomputable def T243 (O : Orc) (k m q0 q1 : Nat) (y1 : Nat) (y2 : List V) (y3 : Nat) (y4 : List V) : Option V := O.L 0 243 0 [true, false, true] [] k [(0, V.sl y1 y2), (1, V.sl y3 y4), (5, V.int .i64
 0)] []
theorem e243 (k m q0 q1 : Nat) (y1 : Nat) (y2 : List V) (y3 : Nat) (y4 : List V) : runV C (k + 1) 243 [V.sl y1 y2, V.sl y3 y4] = T243 (orc C k) k m q0 q1 y1 y2 y3 y4 := by kernel_rfl
theorem E243 (y1 : Nat) (y2 : List V) (y3 : Nat) (y4 : List V) {r : V} (h : T243 (orcE C) 0 0 0 0 y1 y2 y3 y4 = some r) : runE C 243 [V.sl y1 y2, V.sl y3 y4] = some r := ofR (F := fun s => T243 (orc C
 s.k) s.k s.m 0 0 y1 y2 y3 y4) (fun k => e243 k k 0 0 y1 y2 y3 y4) (by
  unfold T243
  repeat' first | with_reducible exact cC | exact cD0 gK) h

noncomputable def T192 (O : Orc) (k m q0 q1 : Nat) (y1 : Int) (y2 : Int) (y3 : Nat) (y4 : List V) (y5 : Nat) (y6 : List V) (y7 : Nat) (y8 : List V) : Option V := must (decide (y4.length = y3 * 1))
 (must (true && (0 + y3).ble 140737488355328 && ((0 + y3) * 1).ble 140737488355328) (must (decide (y6.length = y5 * 1)) (must (true && (0 + y5).ble 140737488355328 && ((0 + y5) * 1).ble
 140737488355328) (must (decide (y8.length = y7 * 1)) (must (true && (0 + y7).ble 140737488355328 && ((0 + y7) * 1).ble 140737488355328) (some (V.tup [V.int .i64 y1, V.int .i64 y2, V.sl (0 + y3) y4,
 V.sl (0 + y5) y6, V.sl (0 + y7) y8])))))))
theorem e192 (k m q0 q1 : Nat) (y1 : Int) (y2 : Int) (y3 : Nat) (y4 : List V) (y5 : Nat) (y6 : List V) (y7 : Nat) (y8 : List V) : runV C (k + 1) 192 [V.agg [V.int .i64 y1, V.int .i64 y2, V.sl y3 y4,
 V.sl y5 y6, V.sl y7 y8]] = T192 (orc C k) k m q0 q1 y1 y2 y3 y4 y5 y6 y7 y8 := by kernel_rfl
theorem E192 (y1 : Int) (y2 : Int) (y3 : Nat) (y4 : List V) (y5 : Nat) (y6 : List V) (y7 : Nat) (y8 : List V) {r : V} (h : T192 (orcE C) 0 0 0 0 y1 y2 y3 y4 y5 y6 y7 y8 = some r) : runE C 192 [V.agg
 [V.int .i64 y1, V.int .i64 y2, V.sl y3 y4, V.sl y5 y6, V.sl y7 y8]] = some r := ofR (F := fun s => T192 (orc C s.k) s.k s.m 0 0 y1 y2 y3 y4 y5 y6 y7 y8) (fun k => e192 k k 0 0 y1 y2 y3 y4 y5 y6 y7 y8)
 (by
  unfold T192
  repeat' first | with_reducible exact cC | with_reducible refine cM ?_) h

noncomputable def T193 (O : Orc) (k m q0 q1 : Nat) (y1 : Nat) (y2 : List V) : Option V := O.L 0 193 0 [true, true, false, true] [] k [(0, V.sl y1 y2), (3, V.ref 0), (4, V.int .i64 0)] [Ob.row 103 0 []
 false]
theorem e193 (k m q0 q1 : Nat) (y1 : Nat) (y2 : List V) : runV C (k + 1) 193 [V.sl y1 y2] = T193 (orc C k) k m q0 q1 y1 y2 := by kernel_rfl
theorem E193 (y1 : Nat) (y2 : List V) {r : V} (h : T193 (orcE C) 0 0 0 0 y1 y2 = some r) : runE C 193 [V.sl y1 y2] = some r := ofR (F := fun s => T193 (orc C s.k) s.k s.m 0 0 y1 y2) (fun k => e193 k k
 0 0 y1 y2) (by
  unfold T193
  repeat' first | with_reducible exact cC | exact cD0 gK) h

noncomputable def T194 (O : Orc) (k m q0 q1 : Nat) (y1 : Nat) (y2 : List V) : Option V := O.L 0 194 0 [true, true, false, true] [] k [(0, V.sl y1 y2), (3, V.ref 0), (4, V.int .i64 0)] [Ob.row 22 0 []
 false]
theorem e194 (k m q0 q1 : Nat) (y1 : Nat) (y2 : List V) : runV C (k + 1) 194 [V.sl y1 y2] = T194 (orc C k) k m q0 q1 y1 y2 := by kernel_rfl
theorem E194 (y1 : Nat) (y2 : List V) {r : V} (h : T194 (orcE C) 0 0 0 0 y1 y2 = some r) : runE C 194 [V.sl y1 y2] = some r := ofR (F := fun s => T194 (orc C s.k) s.k s.m 0 0 y1 y2) (fun k => e194 k k
 0 0 y1 y2) (by
  unfold T194
  repeat' first | with_reducible exact cC | exact cD0 gK) h

noncomputable def T180 (O : Orc) (k m q0 q1 : Nat) (y1 : Nat) (y2 : List V) : Option V := need (O.R 6 211 [V.sl y1 y2, V.fn 247 []]) fun x1 => asTup (some x1) fun x2 => PI.asInt .i64 x2[0]? fun x3 =>
 some (V.tup [V.bool !decide (x3 ≥ 0)])
theorem e180 (k m q0 q1 : Nat) (y1 : Nat) (y2 : List V) : runV C (k + 8) 180 [V.sl y1 y2] = T180 (orc C k) k m q0 q1 y1 y2 := by kernel_rfl
theorem E180 (y1 : Nat) (y2 : List V) {r : V} (h : T180 (orcE C) 0 0 0 0 y1 y2 = some r) : runE C 180 [V.sl y1 y2] = some r := ofR (F := fun s => T180 (orc C s.k) s.k s.m 0 0 y1 y2) (fun k => e180 k k
 0 0 y1 y2) (by
  unfold T180
  repeat' first | with_reducible exact cC | with_reducible refine cN cR fun _ => ?_ | with_reducible refine cT fun _ => ?_ | with_reducible refine cI fun _ => ?_ | with_reducible refine cN cC fun _ => ?_ | with_reducible exact cR) h

noncomputable def T147l1 (O : Orc) (k m q0 q1 : Nat) (y1 : Nat) (y2 : List V) (y3 : Nat) (y4 : List V) (y5 : Int) (y6 : Int) : Option V := bif decide (y6 < y5) then must (inB y6 y3) (asSl y4[y6.toNat *
 2]? fun x1 x2 => PI.asInt .i64 y4[y6.toNat * 2 + 1]? fun x3 => need (O.R 0 196 [V.sl x1 x2]) fun x4 => asTup (some x4) fun x5 => PI.asBool x5[0]? fun x6 => bif !x6 then some (V.tup [V.int .i64 1])
 else need (O.R 0 92 [V.int .i64 x3, V.int .i64 1, V.int .i64 1000]) fun x7 => asTup (some x7) fun x8 => PI.asBool x8[0]? fun x9 => bif !x9 then some (V.tup [V.int .i64 3]) else must (decide (0 ≤ y6)
 && decide (y6 ≤ (↑y1 : Int))) (need (O.R 0 223 [V.sl (y6.toNat - 0) (List.take ((y6.toNat - 0) * 2) (List.drop 0 y2)), V.sl x1 x2]) fun x10 => asTup (some x10) fun x11 => PI.asInt .i64 x11[0]? fun x12
 => bif decide (x12 ≥ 0) then some (V.tup [V.int .i64 7]) else O.L 0 147 1 [true, true, false, true] [] m [(0, V.sl y1 y2), (13, V.sl y3 y4), (14, V.int .i64 y5), (15, V.int .i64 (IntKind.i64.wrap (y6
 + 1)))] [])) else some (V.tup [V.int .i64 0])
theorem e147l1 (k m q0 q1 : Nat) (y1 : Nat) (y2 : List V) (y3 : Nat) (y4 : List V) (y5 : Int) (y6 : Int) : runL C k 147 1 [true, true, false, true] [] (m + 1) [(0, V.sl y1 y2), (13, V.sl y3 y4), (14,
 V.int .i64 y5), (15, V.int .i64 y6)] [] = T147l1 (orc C k) k m q0 q1 y1 y2 y3 y4 y5 y6 := by kernel_rfl
theorem E147l1 (y1 : Nat) (y2 : List V) (y3 : Nat) (y4 : List V) (y5 : Int) (y6 : Int) {r : V} (h : T147l1 (orcE C) 0 0 0 0 y1 y2 y3 y4 y5 y6 = some r) : loopE C 147 1 [true, true, false, true] [] [(0,
 V.sl y1 y2), (13, V.sl y3 y4), (14, V.int .i64 y5), (15, V.int .i64 y6)] [] = some r := ofL (j := 0) (F := fun s => T147l1 (orc C s.k) s.k s.m 0 0 y1 y2 y3 y4 y5 y6) (fs0 fun k m => e147l1 k m 0 0 y1
 y2 y3 y4 y5 y6) (by
  unfold T147l1
  repeat' first | with_reducible exact cC | with_reducible refine cN cR fun _ => ?_ | with_reducible refine cT fun _ => ?_ | with_reducible refine cI fun _ => ?_ | with_reducible refine cM ?_ | with_reducible refine cF ?_ ?_ | with_reducible refine cB fun _ => ?_ | with_reducible refine cL fun _ _ => ?_ | with_reducible refine cN cC fun _ => ?_ | with_reducible exact cR | exact cD0 gM) h

noncomputable def T148l1 (O : Orc) (k m q0 q1 : Nat) (y1 : Nat) (y2 : List V) (y3 : Int) (y4 : Int) (y5 : Nat) (y6 : List V) : Option V := bif decide (y4 < y3) then must (inB y4 y1) (asSl y2[y4.toNat *
 2]? fun x1 x2 => PI.asInt .i64 y2[y4.toNat * 2 + 1]? fun x3 => need (O.R 0 102 [V.int .i64 x3]) fun x4 => asTup (some x4) fun x5 => asSl x5[0]? fun x6 x7 => must (true && (y5 + 2).ble 140737488355328
 && ((y5 + 2) * 24).ble 140737488355328) (O.L 0 148 0 [true, true, false, true] [] m [(3, V.ref 0), (7, V.sl y1 y2), (8, V.int .i64 y3), (9, V.int .i64 (IntKind.i64.wrap (y4 + 1)))] [Ob.row 22 (y5 + 2)
 (y6 ++ [V.sl x1 x2, V.sl x6 x7]) false])) else need (O.R 0 100 [V.sl y5 y6]) fun x8 => asTup (some x8) fun x9 => asSl x9[0]? fun x10 x11 => need (O.R 0 216 [V.str { data := #[(115 : UInt8), (101 :
 UInt8), (116 : UInt8)] }, V.sl 1 [V.sl x10 x11]]) fun x12 => asTup (some x12) fun x13 => asSl x13[0]? fun x14 x15 => some (V.tup [V.sl x14 x15])
theorem e148l1 (k m q0 q1 : Nat) (y1 : Nat) (y2 : List V) (y3 : Int) (y4 : Int) (y5 : Nat) (y6 : List V) : runL C k 148 0 [true, true, false, true] [] (m + 1) [(3, V.ref 0), (7, V.sl y1 y2), (8, V.int
 .i64 y3), (9, V.int .i64 y4)] [Ob.row 22 y5 y6 false] = T148l1 (orc C k) k m q0 q1 y1 y2 y3 y4 y5 y6 := by kernel_rfl
theorem E148l1 (y1 : Nat) (y2 : List V) (y3 : Int) (y4 : Int) (y5 : Nat) (y6 : List V) {r : V} (h : T148l1 (orcE C) 0 0 0 0 y1 y2 y3 y4 y5 y6 = some r) : loopE C 148 0 [true, true, false, true] [] [(3,
 V.ref 0), (7, V.sl y1 y2), (8, V.int .i64 y3), (9, V.int .i64 y4)] [Ob.row 22 y5 y6 false] = some r := ofL (j := 0) (F := fun s => T148l1 (orc C s.k) s.k s.m 0 0 y1 y2 y3 y4 y5 y6) (fs0 fun k m =>
 e148l1 k m 0 0 y1 y2 y3 y4 y5 y6) (by
  unfold T148l1
  repeat' first | with_reducible exact cC | with_reducible refine cN cR fun _ => ?_ | with_reducible refine cT fun _ => ?_ | with_reducible refine cI fun _ => ?_ | with_reducible refine cM ?_ | with_reducible refine cF ?_ ?_ | with_reducible refine cL fun _ _ => ?_ | with_reducible refine cN cC fun _ => ?_ | with_reducible exact cR | exact cD0 gM) h

noncomputable def T211l1 (O : Orc) (k m q0 q1 : Nat) (y1 : Nat) (y2 : List V) (y3 : Int) (y4 : Int) : Option V := bif decide (y4 < y3) then must (inB y4 y1) (must (decide (y4.toNat * 1 < y2.length))
 (asSl y2[y4.toNat * 1]? fun x1 x2 => need (O.R 0 195 [V.sl x1 x2]) fun x3 => asTup (some x3) fun x4 => PI.asBool x4[0]? fun x5 => bif x5 then some (V.tup [V.int .i64 y4]) else O.L 0 211 0 [true,
 false, true] [] m [(0, V.sl y1 y2), (1, V.fn 195 []), (7, V.int .i64 y3), (8, V.int .i64 (IntKind.i64.wrap (y4 + 1)))] [])) else some (V.tup [V.int .i64 (-1)])
theorem e211l1 (k m q0 q1 : Nat) (y1 : Nat) (y2 : List V) (y3 : Int) (y4 : Int) : runL C k 211 0 [true, false, true] [] (m + 1) [(0, V.sl y1 y2), (1, V.fn 195 []), (7, V.int .i64 y3), (8, V.int .i64
 y4)] [] = T211l1 (orc C k) k m q0 q1 y1 y2 y3 y4 := by kernel_rfl
theorem E211l1 (y1 : Nat) (y2 : List V) (y3 : Int) (y4 : Int) {r : V} (h : T211l1 (orcE C) 0 0 0 0 y1 y2 y3 y4 = some r) : loopE C 211 0 [true, false, true] [] [(0, V.sl y1 y2), (1, V.fn 195 []), (7,
 V.int .i64 y3), (8, V.int .i64 y4)] [] = some r := ofL (j := 0) (F := fun s => T211l1 (orc C s.k) s.k s.m 0 0 y1 y2 y3 y4) (fs0 fun k m => e211l1 k m 0 0 y1 y2 y3 y4) (by
  unfold T211l1
  repeat' first | with_reducible exact cC | with_reducible refine cN cR fun _ => ?_ | with_reducible refine cT fun _ => ?_ | with_reducible refine cM ?_ | with_reducible refine cF ?_ ?_ | with_reducible refine cB fun _ => ?_ | with_reducible refine cL fun _ _ => ?_ | with_reducible refine cN cC fun _ => ?_ | with_reducible exact cR | exact cD0 gM) h

noncomputable def T140 (O : Orc) (k m q0 q1 : Nat) (y1 : Int) (y2 : Int) (y3 : Nat) (y4 : List V) (y5 : Nat) (y6 : List V) (y7 : Nat) (y8 : List V) : Option V := both (both (need (O.R 0 184 [V.sl y3
 y4]) fun x1 => asTup (some x1) fun x2 => asOsl x2[0]? fun x3 x4 => both (both (need (O.R 0 184 [V.sl y5 y6]) fun x5 => asTup (some x5) fun x6 => asOsl x6[0]? fun x7 x8 => need (O.R 0 184 [V.sl y7 y8])
 fun x9 => asTup (some x9) fun x10 => asOsl x10[0]? fun x11 x12 => must (false || x4.all flatV) (must (false || x8.all flatV) (must (false || x12.all flatV) (some (V.tup [V.int .i64 y1, V.int .i64 y2,
 V.osl x3 x4, V.osl x7 x8, V.osl x11 x12]))))) (need (O.R 0 184 [V.sl y5 y6]) fun x13 => asTup (some x13) fun x14 => asOsl x14[0]? fun x15 x16 => need (O.R 0 184 [V.sl y7 y8]) fun x17 => asTup (some
 x17) fun x18 => asOsl x18[0]? fun x19 x20 => must (false || x4.all flatV) (must (false || x16.all flatV) (must (false || x20.all flatV) (some (V.tup [V.int .i64 y1, V.int .i64 y2, V.osl x3 x4, V.osl
 x15 x16, V.osl x19 x20])))))) (need (O.R 0 184 [V.sl y5 y6]) fun x21 => asTup (some x21) fun x22 => asOsl x22[0]? fun x23 x24 => need (O.R 0 184 [V.sl y7 y8]) fun x25 => asTup (some x25) fun x26 =>
 asOsl x26[0]? fun x27 x28 => must (false || x4.all flatV) (must (false || x24.all flatV) (must (false || x28.all flatV) (some (V.tup [V.int .i64 y1, V.int .i64 y2, V.osl x3 x4, V.osl x23 x24, V.osl
 x27 x28])))))) (both (both (need (O.R 0 184 [V.sl y3 y4]) fun x29 => asTup (some x29) fun x30 => asOsl x30[0]? fun x31 x32 => both (need (O.R 0 184 [V.sl y5 y6]) fun x33 => asTup (some x33) fun x34 =>
 asOsl x34[0]? fun x35 x36 => need (O.R 0 184 [V.sl y7 y8]) fun x37 => asTup (some x37) fun x38 => asOsl x38[0]? fun x39 x40 => must (false || x32.all flatV) (must (false || x36.all flatV) (must (false
 || x40.all flatV) (some (V.tup [V.int .i64 y1, V.int .i64 y2, V.osl x31 x32, V.osl x35 x36, V.osl x39 x40]))))) (need (O.R 0 184 [V.sl y5 y6]) fun x41 => asTup (some x41) fun x42 => asOsl x42[0]? fun
 x43 x44 => need (O.R 0 184 [V.sl y7 y8]) fun x45 => asTup (some x45) fun x46 => asOsl x46[0]? fun x47 x48 => must (false || x32.all flatV) (must (false || x44.all flatV) (must (false || x48.all flatV)
 (some (V.tup [V.int .i64 y1, V.int .i64 y2, V.osl x31 x32, V.osl x43 x44, V.osl x47 x48])))))) (need (O.R 0 184 [V.sl y3 y4]) fun x49 => asTup (some x49) fun x50 => asOsl x50[0]? fun x51 x52 => need
 (O.R 0 184 [V.sl y5 y6]) fun x53 => asTup (some x53) fun x54 => asOsl x54[0]? fun x55 x56 => need (O.R 0 184 [V.sl y7 y8]) fun x57 => asTup (some x57) fun x58 => asOsl x58[0]? fun x59 x60 => must
 (false || x52.all flatV) (must (false || x56.all flatV) (must (false || x60.all flatV) (some (V.tup [V.int .i64 y1, V.int .i64 y2, V.osl x51 x52, V.osl x55 x56, V.osl x59 x60])))))) (both (need (O.R 0
 184 [V.sl y3 y4]) fun x61 => asTup (some x61) fun x62 => asOsl x62[0]? fun x63 x64 => need (O.R 0 184 [V.sl y5 y6]) fun x65 => asTup (some x65) fun x66 => asOsl x66[0]? fun x67 x68 => need (O.R 0 184
 [V.sl y7 y8]) fun x69 => asTup (some x69) fun x70 => asOsl x70[0]? fun x71 x72 => must (false || x64.all flatV) (must (false || x68.all flatV) (must (false || x72.all flatV) (some (V.tup [V.int .i64
 y1, V.int .i64 y2, V.osl x63 x64, V.osl x67 x68, V.osl x71 x72]))))) (need (O.R 0 184 [V.sl y3 y4]) fun x73 => asTup (some x73) fun x74 => asOsl x74[0]? fun x75 x76 => need (O.R 0 184 [V.sl y5 y6])
 fun x77 => asTup (some x77) fun x78 => asOsl x78[0]? fun x79 x80 => need (O.R 0 184 [V.sl y7 y8]) fun x81 => asTup (some x81) fun x82 => asOsl x82[0]? fun x83 x84 => must (false || x76.all flatV)
 (must (false || x80.all flatV) (must (false || x84.all flatV) (some (V.tup [V.int .i64 y1, V.int .i64 y2, V.osl x75 x76, V.osl x79 x80, V.osl x83 x84])))))))) (both (both (both (need (O.R 0 184 [V.sl
 y3 y4]) fun x85 => asTup (some x85) fun x86 => asOsl x86[0]? fun x87 x88 => both (need (O.R 0 184 [V.sl y5 y6]) fun x89 => asTup (some x89) fun x90 => asOsl x90[0]? fun x91 x92 => need (O.R 0 184
 [V.sl y7 y8]) fun x93 => asTup (some x93) fun x94 => asOsl x94[0]? fun x95 x96 => must (false || x88.all flatV) (must (false || x92.all flatV) (must (false || x96.all flatV) (some (V.tup [V.int .i64
 y1, V.int .i64 y2, V.osl x87 x88, V.osl x91 x92, V.osl x95 x96]))))) (need (O.R 0 184 [V.sl y5 y6]) fun x97 => asTup (some x97) fun x98 => asOsl x98[0]? fun x99 x100 => need (O.R 0 184 [V.sl y7 y8])
 fun x101 => asTup (some x101) fun x102 => asOsl x102[0]? fun x103 x104 => must (false || x88.all flatV) (must (false || x100.all flatV) (must (false || x104.all flatV) (some (V.tup [V.int .i64 y1,
 V.int .i64 y2, V.osl x87 x88, V.osl x99 x100, V.osl x103 x104])))))) (need (O.R 0 184 [V.sl y3 y4]) fun x105 => asTup (some x105) fun x106 => asOsl x106[0]? fun x107 x108 => need (O.R 0 184 [V.sl y5
 y6]) fun x109 => asTup (some x109) fun x110 => asOsl x110[0]? fun x111 x112 => need (O.R 0 184 [V.sl y7 y8]) fun x113 => asTup (some x113) fun x114 => asOsl x114[0]? fun x115 x116 => must (false ||
 x108.all flatV) (must (false || x112.all flatV) (must (false || x116.all flatV) (some (V.tup [V.int .i64 y1, V.int .i64 y2, V.osl x107 x108, V.osl x111 x112, V.osl x115 x116])))))) (need (O.R 0 184
 [V.sl y3 y4]) fun x117 => asTup (some x117) fun x118 => asOsl x118[0]? fun x119 x120 => need (O.R 0 184 [V.sl y5 y6]) fun x121 => asTup (some x121) fun x122 => asOsl x122[0]? fun x123 x124 => need
 (O.R 0 184 [V.sl y7 y8]) fun x125 => asTup (some x125) fun x126 => asOsl x126[0]? fun x127 x128 => must (false || x120.all flatV) (must (false || x124.all flatV) (must (false || x128.all flatV) (some
 (V.tup [V.int .i64 y1, V.int .i64 y2, V.osl x119 x120, V.osl x123 x124, V.osl x127 x128])))))) (both (both (need (O.R 0 184 [V.sl y3 y4]) fun x129 => asTup (some x129) fun x130 => asOsl x130[0]? fun
 x131 x132 => need (O.R 0 184 [V.sl y5 y6]) fun x133 => asTup (some x133) fun x134 => asOsl x134[0]? fun x135 x136 => need (O.R 0 184 [V.sl y7 y8]) fun x137 => asTup (some x137) fun x138 => asOsl
 x138[0]? fun x139 x140 => must (false || x132.all flatV) (must (false || x136.all flatV) (must (false || x140.all flatV) (some (V.tup [V.int .i64 y1, V.int .i64 y2, V.osl x131 x132, V.osl x135 x136,
 V.osl x139 x140]))))) (need (O.R 0 184 [V.sl y3 y4]) fun x141 => asTup (some x141) fun x142 => asOsl x142[0]? fun x143 x144 => need (O.R 0 184 [V.sl y5 y6]) fun x145 => asTup (some x145) fun x146 =>
 asOsl x146[0]? fun x147 x148 => need (O.R 0 184 [V.sl y7 y8]) fun x149 => asTup (some x149) fun x150 => asOsl x150[0]? fun x151 x152 => must (false || x144.all flatV) (must (false || x148.all flatV)
 (must (false || x152.all flatV) (some (V.tup [V.int .i64 y1, V.int .i64 y2, V.osl x143 x144, V.osl x147 x148, V.osl x151 x152])))))) (need (O.R 0 184 [V.sl y3 y4]) fun x153 => asTup (some x153) fun
 x154 => asOsl x154[0]? fun x155 x156 => need (O.R 0 184 [V.sl y5 y6]) fun x157 => asTup (some x157) fun x158 => asOsl x158[0]? fun x159 x160 => need (O.R 0 184 [V.sl y7 y8]) fun x161 => asTup (some
 x161) fun x162 => asOsl x162[0]? fun x163 x164 => must (false || x156.all flatV) (must (false || x160.all flatV) (must (false || x164.all flatV) (some (V.tup [V.int .i64 y1, V.int .i64 y2, V.osl x155
 x156, V.osl x159 x160, V.osl x163 x164])))))))
theorem e140 (k m q0 q1 : Nat) (y1 : Int) (y2 : Int) (y3 : Nat) (y4 : List V) (y5 : Nat) (y6 : List V) (y7 : Nat) (y8 : List V) : runV C (k + 1) 140 [V.agg [V.int .i64 y1, V.int .i64 y2, V.sl y3 y4,
 V.sl y5 y6, V.sl y7 y8]] = T140 (orc C k) k m q0 q1 y1 y2 y3 y4 y5 y6 y7 y8 := by kernel_rfl
theorem E140 (y1 : Int) (y2 : Int) (y3 : Nat) (y4 : List V) (y5 : Nat) (y6 : List V) (y7 : Nat) (y8 : List V) {r : V} (h : T140 (orcE C) 0 0 0 0 y1 y2 y3 y4 y5 y6 y7 y8 = some r) : runE C 140 [V.agg
 [V.int .i64 y1, V.int .i64 y2, V.sl y3 y4, V.sl y5 y6, V.sl y7 y8]] = some r := ofR (F := fun s => T140 (orc C s.k) s.k s.m 0 0 y1 y2 y3 y4 y5 y6 y7 y8) (fun k => e140 k k 0 0 y1 y2 y3 y4 y5 y6 y7 y8)
 (by
  unfold T140
  repeat' first | with_reducible exact cC | with_reducible refine cN cR fun _ => ?_ | with_reducible refine cT fun _ => ?_ | with_reducible refine cM ?_ | with_reducible refine cO fun _ _ => ?_ | with_reducible refine cN cC fun _ => ?_ | with_reducible refine cW ?_ ?_ | with_reducible exact cR) h

noncomputable def T197 (O : Orc) (k m q0 q1 : Nat) (y1 : Nat) (y2 : List V) : Option V := O.L 0 197 0 [true, true, false, true] [] k [(3, V.ref 0), (7, V.sl y1 y2), (8, V.int .i64 (↑y1 : Int)), (9,
 V.int .i64 0)] [Ob.nrow [] 103 0 []]
theorem e197 (k m q0 q1 : Nat) (y1 : Nat) (y2 : List V) : runV C (k + 1) 197 [V.sl y1 y2] = T197 (orc C k) k m q0 q1 y1 y2 := by kernel_rfl
theorem E197 (y1 : Nat) (y2 : List V) {r : V} (h : T197 (orcE C) 0 0 0 0 y1 y2 = some r) : runE C 197 [V.sl y1 y2] = some r := ofR (F := fun s => T197 (orc C s.k) s.k s.m 0 0 y1 y2) (fun k => e197 k k
 0 0 y1 y2) (by
  unfold T197
  repeat' first | with_reducible exact cC | exact cD0 gK) h

noncomputable def T198 (O : Orc) (k m q0 q1 : Nat) (y1 : Nat) (y2 : List V) : Option V := O.L 0 198 0 [true, true, false, true] [] k [(3, V.ref 0), (7, V.sl y1 y2), (8, V.int .i64 (↑y1 : Int)), (9,
 V.int .i64 0)] [Ob.nrow [] 22 0 []]
theorem e198 (k m q0 q1 : Nat) (y1 : Nat) (y2 : List V) : runV C (k + 1) 198 [V.sl y1 y2] = T198 (orc C k) k m q0 q1 y1 y2 := by kernel_rfl
theorem E198 (y1 : Nat) (y2 : List V) {r : V} (h : T198 (orcE C) 0 0 0 0 y1 y2 = some r) : runE C 198 [V.sl y1 y2] = some r := ofR (F := fun s => T198 (orc C s.k) s.k s.m 0 0 y1 y2) (fun k => e198 k k
 0 0 y1 y2) (by
  unfold T198
  repeat' first | with_reducible exact cC | exact cD0 gK) h

noncomputable def T254 (O : Orc) (k m q0 q1 : Nat) (y1 : Nat) (y2 : List V) (y3 : Int) : Option V := O.L 0 254 0 [true, false, true] [] k [(0, V.sl y1 y2), (1, V.int .i64 y3), (5, V.int .i64 0)] []
theorem e254 (k m q0 q1 : Nat) (y1 : Nat) (y2 : List V) (y3 : Int) : runV C (k + 1) 254 [V.sl y1 y2, V.int .i64 y3] = T254 (orc C k) k m q0 q1 y1 y2 y3 := by kernel_rfl
theorem E254 (y1 : Nat) (y2 : List V) (y3 : Int) {r : V} (h : T254 (orcE C) 0 0 0 0 y1 y2 y3 = some r) : runE C 254 [V.sl y1 y2, V.int .i64 y3] = some r := ofR (F := fun s => T254 (orc C s.k) s.k s.m 0
 0 y1 y2 y3) (fun k => e254 k k 0 0 y1 y2 y3) (by
  unfold T254
  repeat' first | with_reducible exact cC | exact cD0 gK) h

noncomputable def T200l1 (O : Orc) (k m q0 q1 : Nat) (y1 : Nat) (y2 : List V) (y3 : Int) (y4 : Int) : Option V := bif decide (y4 < (↑y1 : Int)) then must (inB y4 y1) (must (decide (y4.toNat * 2 + 0 <
 y2.length)) (asSl y2[y4.toNat * 2 + 0]? fun x1 x2 => need (O.R 0 254 [V.sl x1 x2, V.int .i64 y3]) fun x3 => asTup (some x3) fun x4 => PI.asInt .i64 x4[0]? fun x5 => bif decide (x5 < 0) then some
 (V.tup [V.int .i64 (-1)]) else must (inB y4 y1) (PI.asInt .i64 y2[y4.toNat * 2 + 1]? fun x6 => bif x6 != x5 then some (V.tup [V.int .i64 (-1)]) else O.L 0 200 0 [true, false, true] [] m [(0, V.sl y1
 y2), (1, V.int .i64 (IntKind.i64.wrap (x5 + 1))), (5, V.int .i64 (IntKind.i64.wrap (y4 + 1)))] []))) else some (V.tup [V.int .i64 y3])
theorem e200l1 (k m q0 q1 : Nat) (y1 : Nat) (y2 : List V) (y3 : Int) (y4 : Int) : runL C k 200 0 [true, false, true] [] (m + 1) [(0, V.sl y1 y2), (1, V.int .i64 y3), (5, V.int .i64 y4)] [] = T200l1
 (orc C k) k m q0 q1 y1 y2 y3 y4 := by kernel_rfl
theorem E200l1 (y1 : Nat) (y2 : List V) (y3 : Int) (y4 : Int) {r : V} (h : T200l1 (orcE C) 0 0 0 0 y1 y2 y3 y4 = some r) : loopE C 200 0 [true, false, true] [] [(0, V.sl y1 y2), (1, V.int .i64 y3), (5,
 V.int .i64 y4)] [] = some r := ofL (j := 0) (F := fun s => T200l1 (orc C s.k) s.k s.m 0 0 y1 y2 y3 y4) (fs0 fun k m => e200l1 k m 0 0 y1 y2 y3 y4) (by
  unfold T200l1
  repeat' first | with_reducible exact cC | with_reducible refine cN cR fun _ => ?_ | with_reducible refine cT fun _ => ?_ | with_reducible refine cI fun _ => ?_ | with_reducible refine cM ?_ | with_reducible refine cF ?_ ?_ | with_reducible refine cL fun _ _ => ?_ | with_reducible refine cN cC fun _ => ?_ | with_reducible exact cR | exact cD0 gM) h

noncomputable def T201l1 (O : Orc) (k m q0 q1 : Nat) (y1 : Nat) (y2 : List V) (y3 : Int) (y4 : Int) : Option V := bif decide (y4 < (↑y1 : Int)) then must (inB y4 y1) (must (decide (y4.toNat * 1 <
 y2.length)) (asSl y2[y4.toNat * 1]? fun x1 x2 => need (O.R 0 254 [V.sl x1 x2, V.int .i64 y3]) fun x3 => asTup (some x3) fun x4 => PI.asInt .i64 x4[0]? fun x5 => bif decide (x5 < 0) then some (V.tup
 [V.int .i64 (-1)]) else O.L 0 201 0 [true, false, true] [] m [(0, V.sl y1 y2), (1, V.int .i64 x5), (5, V.int .i64 (IntKind.i64.wrap (y4 + 1)))] [])) else some (V.tup [V.int .i64 y3])
theorem e201l1 (k m q0 q1 : Nat) (y1 : Nat) (y2 : List V) (y3 : Int) (y4 : Int) : runL C k 201 0 [true, false, true] [] (m + 1) [(0, V.sl y1 y2), (1, V.int .i64 y3), (5, V.int .i64 y4)] [] = T201l1
 (orc C k) k m q0 q1 y1 y2 y3 y4 := by kernel_rfl
theorem E201l1 (y1 : Nat) (y2 : List V) (y3 : Int) (y4 : Int) {r : V} (h : T201l1 (orcE C) 0 0 0 0 y1 y2 y3 y4 = some r) : loopE C 201 0 [true, false, true] [] [(0, V.sl y1 y2), (1, V.int .i64 y3), (5,
 V.int .i64 y4)] [] = some r := ofL (j := 0) (F := fun s => T201l1 (orc C s.k) s.k s.m 0 0 y1 y2 y3 y4) (fs0 fun k m => e201l1 k m 0 0 y1 y2 y3 y4) (by
  unfold T201l1
  repeat' first | with_reducible exact cC | with_reducible refine cN cR fun _ => ?_ | with_reducible refine cT fun _ => ?_ | with_reducible refine cI fun _ => ?_ | with_reducible refine cM ?_ | with_reducible refine cF ?_ ?_ | with_reducible refine cL fun _ _ => ?_ | with_reducible refine cN cC fun _ => ?_ | with_reducible exact cR | exact cD0 gM) h

noncomputable def T190l2 (O : Orc) (k m q0 q1 : Nat) (y1 : Nat) (y2 : List V) (y3 : Int) (y4 : Int) : Option V := bif decide (y4 < y3) then must (inB y4 y1) (must (decide (y4.toNat * 2 + 0 <
 y2.length)) (must (inB y3 y1) (must (decide (y3.toNat * 2 + 0 < y2.length)) (asSl y2[y4.toNat * 2 + 0]? fun x1 x2 => asSl y2[y3.toNat * 2 + 0]? fun x3 x4 => need (O.R 0 176 [V.sl x1 x2, V.sl x3 x4])
 fun x5 => asTup (some x5) fun x6 => PI.asBool x6[0]? fun x7 => bif x7 then some (V.tup [V.int .i64 7]) else O.L 0 190 2 [true, true, true, false, true, false, true, false, false, true, true, true]
 [q0] m [(0, V.sl y1 y2), (3, V.int .i64 y3), (4, V.int .i64 (IntKind.i64.wrap (y4 + 1)))] [])))) else O.L 0 190 0 [true, true, true, false, true] [] q0 [(0, V.sl y1 y2), (3, V.int .i64
 (IntKind.i64.wrap (y3 + 1)))] []
theorem e190l2 (k m q0 q1 : Nat) (y1 : Nat) (y2 : List V) (y3 : Int) (y4 : Int) : runL C k 190 2 [true, true, true, false, true, false, true, false, false, true, true, true] [q0] (m + 1) [(0, V.sl y1
 y2), (3, V.int .i64 y3), (4, V.int .i64 y4)] [] = T190l2 (orc C k) k m q0 q1 y1 y2 y3 y4 := by kernel_rfl
theorem E190l2 (y1 : Nat) (y2 : List V) (y3 : Int) (y4 : Int) {r : V} (h : T190l2 (orcE C) 0 0 0 0 y1 y2 y3 y4 = some r) : loopE C 190 2 [true, true, true, false, true, false, true, false, false, true,
 true, true] [0] [(0, V.sl y1 y2), (3, V.int .i64 y3), (4, V.int .i64 y4)] [] = some r := ofL (j := 0) (F := fun s => T190l2 (orc C s.k) s.k s.m (s.fs.getD 0 0) 0 y1 y2 y3 y4) (fs1 fun k m q0 => e190l2
 k m q0 0 y1 y2 y3 y4) (by
  unfold T190l2
  repeat' first | with_reducible exact cC | with_reducible refine cN cR fun _ => ?_ | with_reducible refine cT fun _ => ?_ | with_reducible refine cM ?_ | with_reducible refine cF ?_ ?_ | with_reducible refine cB fun _ => ?_ | with_reducible refine cL fun _ _ => ?_ | with_reducible refine cN cC fun _ => ?_ | with_reducible exact cR | exact cD0 (gF (i := 0) (by decide)) | exact cD1 gM (gF (i := 0) (by decide))) h

noncomputable def T188 (O : Orc) (k m q0 q1 : Nat) (y1 : Int) : Option V := O.L 0 188 0 [true, true, false, true] [] k [(0, V.int .i64 y1), (3, V.ref 0), (4, V.int .i64 6)] [Ob.row 5 0 [] false]
theorem e188 (k m q0 q1 : Nat) (y1 : Int) : runV C (k + 1) 188 [V.int .i64 y1] = T188 (orc C k) k m q0 q1 y1 := by kernel_rfl
theorem E188 (y1 : Int) {r : V} (h : T188 (orcE C) 0 0 0 0 y1 = some r) : runE C 188 [V.int .i64 y1] = some r := ofR (F := fun s => T188 (orc C s.k) s.k s.m 0 0 y1) (fun k => e188 k k 0 0 y1) (by
  unfold T188
  repeat' first | with_reducible exact cC | exact cD0 gK) h

noncomputable def T111 (O : Orc) (k m q0 q1 : Nat) (y1 : Nat) (y2 : List V) : Option V := O.L 0 111 0 [true, true, false, true] [] k [(0, V.sl y1 y2), (3, V.ref 0), (4, V.int .i64 0)] [Ob.row 5 0 []
 false]
theorem e111 (k m q0 q1 : Nat) (y1 : Nat) (y2 : List V) : runV C (k + 1) 111 [V.sl y1 y2] = T111 (orc C k) k m q0 q1 y1 y2 := by kernel_rfl
theorem E111 (y1 : Nat) (y2 : List V) {r : V} (h : T111 (orcE C) 0 0 0 0 y1 y2 = some r) : runE C 111 [V.sl y1 y2] = some r := ofR (F := fun s => T111 (orc C s.k) s.k s.m 0 0 y1 y2) (fun k => e111 k k
 0 0 y1 y2) (by
  unfold T111
  repeat' first | with_reducible exact cC | exact cD0 gK) h

noncomputable def T244 (O : Orc) (k m q0 q1 : Nat) (y1 : ByteArray) (y2 : Nat) (y3 : List V) : Option V := must (y1.size.ble 140737488355328) (must (decide ((bytesV y1.data.toList).length = y1.size *
 1)) (must (true && (1 + y1.size).ble 140737488355328 && ((1 + y1.size) * 1).ble 140737488355328) (must (decide (y3.length = y2 * 1)) (must (true && (1 + y1.size + y2).ble 140737488355328 && ((1 +
 y1.size + y2) * 1).ble 140737488355328) (need (O.R 0 187 [V.sl (1 + y1.size + y2) (V.int .u8 (IntKind.u8.wrap ((↑y1.size : Int).tmod 256)) :: bytesV y1.data.toList ++ y3)]) fun x1 => asTup (some x1)
 fun x2 => asSl x2[0]? fun x3 x4 => some (V.tup [V.sl x3 x4]))))))
theorem e244 (k m q0 q1 : Nat) (y1 : ByteArray) (y2 : Nat) (y3 : List V) : runV C (k + 1) 244 [V.str y1, V.sl y2 y3] = T244 (orc C k) k m q0 q1 y1 y2 y3 := by kernel_rfl
theorem E244 (y1 : ByteArray) (y2 : Nat) (y3 : List V) {r : V} (h : T244 (orcE C) 0 0 0 0 y1 y2 y3 = some r) : runE C 244 [V.str y1, V.sl y2 y3] = some r := ofR (F := fun s => T244 (orc C s.k) s.k s.m
 0 0 y1 y2 y3) (fun k => e244 k k 0 0 y1 y2 y3) (by
  unfold T244
  repeat' first | with_reducible exact cC | with_reducible refine cN cR fun _ => ?_ | with_reducible refine cT fun _ => ?_ | with_reducible refine cM ?_ | with_reducible refine cL fun _ _ => ?_ | with_reducible refine cN cC fun _ => ?_ | with_reducible exact cR) h

noncomputable def T243l1 (O : Orc) (k m q0 q1 : Nat) (y1 : Nat) (y2 : List V) (y3 : Nat) (y4 : List V) (y5 : Int) : Option V := bif decide (y5 < (↑y1 : Int)) then bif decide (y5 < (↑y3 : Int)) then
 must (inB y5 y1) (PI.asInt .u8 y2[y5.toNat * 1]? fun x1 => must (inB y5 y3) (PI.asInt .u8 y4[y5.toNat * 1]? fun x2 => bif decide (x1 < x2) then some (V.tup [V.int .i64 (-1)]) else must (inB y5 y1)
 (PI.asInt .u8 y2[y5.toNat * 1]? fun x3 => must (inB y5 y3) (PI.asInt .u8 y4[y5.toNat * 1]? fun x4 => bif decide (x3 > x4) then some (V.tup [V.int .i64 1]) else O.L 0 243 0 [true, false, true] [] m
 [(0, V.sl y1 y2), (1, V.sl y3 y4), (5, V.int .i64 (IntKind.i64.wrap (y5 + 1)))] [])))) else bif decide ((↑y1 : Int) < (↑y3 : Int)) then some (V.tup [V.int .i64 (-1)]) else bif decide ((↑y1 : Int) >
 (↑y3 : Int)) then some (V.tup [V.int .i64 1]) else some (V.tup [V.int .i64 0]) else bif decide ((↑y1 : Int) < (↑y3 : Int)) then some (V.tup [V.int .i64 (-1)]) else bif decide ((↑y1 : Int) > (↑y3 :
 Int)) then some (V.tup [V.int .i64 1]) else some (V.tup [V.int .i64 0])
theorem e243l1 (k m q0 q1 : Nat) (y1 : Nat) (y2 : List V) (y3 : Nat) (y4 : List V) (y5 : Int) : runL C k 243 0 [true, false, true] [] (m + 1) [(0, V.sl y1 y2), (1, V.sl y3 y4), (5, V.int .i64 y5)] [] =
 T243l1 (orc C k) k m q0 q1 y1 y2 y3 y4 y5 := by kernel_rfl
theorem E243l1 (y1 : Nat) (y2 : List V) (y3 : Nat) (y4 : List V) (y5 : Int) {r : V} (h : T243l1 (orcE C) 0 0 0 0 y1 y2 y3 y4 y5 = some r) : loopE C 243 0 [true, false, true] [] [(0, V.sl y1 y2), (1,
 V.sl y3 y4), (5, V.int .i64 y5)] [] = some r := ofL (j := 0) (F := fun s => T243l1 (orc C s.k) s.k s.m 0 0 y1 y2 y3 y4 y5) (fs0 fun k m => e243l1 k m 0 0 y1 y2 y3 y4 y5) (by
  unfold T243l1
  repeat' first | with_reducible exact cC | with_reducible refine cI fun _ => ?_ | with_reducible refine cM ?_ | with_reducible refine cF ?_ ?_ | exact cD0 gM) h

noncomputable def T193l1 (O : Orc) (k m q0 q1 : Nat) (y1 : Nat) (y2 : List V) (y3 : Int) (y4 : Nat) (y5 : List V) : Option V := bif decide (y3 < (↑y1 : Int)) then must (inB y3 y1) (must (decide
 (y3.toNat * 2 + 0 < y2.length)) (must (inB y3 y1) (PI.asInt .i64 y2[y3.toNat * 2 + 1]? fun x1 => asSl y2[y3.toNat * 2 + 0]? fun x2 x3 => must (decide (x3.length = x2 * 1)) (must (true && (0 + x2).ble
 140737488355328 && ((0 + x2) * 1).ble 140737488355328) (must (true && (y4 + 1).ble 140737488355328 && ((y4 + 1) * 32).ble 140737488355328) (O.L 0 193 0 [true, true, false, true] [] m [(0, V.sl y1 y2),
 (3, V.ref 0), (4, V.int .i64 (IntKind.i64.wrap (y3 + 1)))] [Ob.row 103 (y4 + 1) (y5 ++ [V.sl (0 + x2) x3, V.int .i64 x1]) false])))))) else some (V.tup [V.sl y4 y5])
theorem e193l1 (k m q0 q1 : Nat) (y1 : Nat) (y2 : List V) (y3 : Int) (y4 : Nat) (y5 : List V) : runL C k 193 0 [true, true, false, true] [] (m + 1) [(0, V.sl y1 y2), (3, V.ref 0), (4, V.int .i64 y3)]
 [Ob.row 103 y4 y5 false] = T193l1 (orc C k) k m q0 q1 y1 y2 y3 y4 y5 := by kernel_rfl
theorem E193l1 (y1 : Nat) (y2 : List V) (y3 : Int) (y4 : Nat) (y5 : List V) {r : V} (h : T193l1 (orcE C) 0 0 0 0 y1 y2 y3 y4 y5 = some r) : loopE C 193 0 [true, true, false, true] [] [(0, V.sl y1 y2),
 (3, V.ref 0), (4, V.int .i64 y3)] [Ob.row 103 y4 y5 false] = some r := ofL (j := 0) (F := fun s => T193l1 (orc C s.k) s.k s.m 0 0 y1 y2 y3 y4 y5) (fs0 fun k m => e193l1 k m 0 0 y1 y2 y3 y4 y5) (by
  unfold T193l1
  repeat' first | with_reducible exact cC | with_reducible refine cI fun _ => ?_ | with_reducible refine cM ?_ | with_reducible refine cF ?_ ?_ | with_reducible refine cL fun _ _ => ?_ | exact cD0 gM) h

noncomputable def T194l1 (O : Orc) (k m q0 q1 : Nat) (y1 : Nat) (y2 : List V) (y3 : Int) (y4 : Nat) (y5 : List V) : Option V := bif decide (y3 < (↑y1 : Int)) then must (inB y3 y1) (must (decide
 (y3.toNat * 1 < y2.length)) (asSl y2[y3.toNat * 1]? fun x1 x2 => must (decide (x2.length = x1 * 1)) (must (true && (0 + x1).ble 140737488355328 && ((0 + x1) * 1).ble 140737488355328) (must (true &&
 (y4 + 1).ble 140737488355328 && ((y4 + 1) * 24).ble 140737488355328) (O.L 0 194 0 [true, true, false, true] [] m [(0, V.sl y1 y2), (3, V.ref 0), (4, V.int .i64 (IntKind.i64.wrap (y3 + 1)))] [Ob.row 22
 (y4 + 1) (y5 ++ [V.sl (0 + x1) x2]) false]))))) else some (V.tup [V.sl y4 y5])
theorem e194l1 (k m q0 q1 : Nat) (y1 : Nat) (y2 : List V) (y3 : Int) (y4 : Nat) (y5 : List V) : runL C k 194 0 [true, true, false, true] [] (m + 1) [(0, V.sl y1 y2), (3, V.ref 0), (4, V.int .i64 y3)]
 [Ob.row 22 y4 y5 false] = T194l1 (orc C k) k m q0 q1 y1 y2 y3 y4 y5 := by kernel_rfl
theorem E194l1 (y1 : Nat) (y2 : List V) (y3 : Int) (y4 : Nat) (y5 : List V) {r : V} (h : T194l1 (orcE C) 0 0 0 0 y1 y2 y3 y4 y5 = some r) : loopE C 194 0 [true, true, false, true] [] [(0, V.sl y1 y2),
 (3, V.ref 0), (4, V.int .i64 y3)] [Ob.row 22 y4 y5 false] = some r := ofL (j := 0) (F := fun s => T194l1 (orc C s.k) s.k s.m 0 0 y1 y2 y3 y4 y5) (fs0 fun k m => e194l1 k m 0 0 y1 y2 y3 y4 y5) (by
  unfold T194l1
  repeat' first | with_reducible exact cC | with_reducible refine cM ?_ | with_reducible refine cF ?_ ?_ | with_reducible refine cL fun _ _ => ?_ | exact cD0 gM) h

noncomputable def T211s2 (O : Orc) (k m q0 q1 : Nat) (y1 : Nat) (y2 : List V) : Option V := O.L 0 211 0 [true, false, true] [] k [(0, V.sl y1 y2), (1, V.fn 247 []), (7, V.int .i64 (↑y1 : Int)), (8,
 V.int .i64 0)] []
theorem e211s2 (k m q0 q1 : Nat) (y1 : Nat) (y2 : List V) : runV C (k + 1) 211 [V.sl y1 y2, V.fn 247 []] = T211s2 (orc C k) k m q0 q1 y1 y2 := by kernel_rfl
theorem E211s2 (y1 : Nat) (y2 : List V) {r : V} (h : T211s2 (orcE C) 0 0 0 0 y1 y2 = some r) : runE C 211 [V.sl y1 y2, V.fn 247 []] = some r := ofR (F := fun s => T211s2 (orc C s.k) s.k s.m 0 0 y1 y2)
 (fun k => e211s2 k k 0 0 y1 y2) (by
  unfold T211s2
  repeat' first | with_reducible exact cC | exact cD0 gK) h

noncomputable def T196 (O : Orc) (k m q0 q1 : Nat) (y1 : Nat) (y2 : List V) : Option V := some (V.tup [V.bool ((↑y1 : Int) == 32)])
theorem e196 (k m q0 q1 : Nat) (y1 : Nat) (y2 : List V) : runV C (k + 1) 196 [V.sl y1 y2] = T196 (orc C k) k m q0 q1 y1 y2 := by kernel_rfl
theorem E196 (y1 : Nat) (y2 : List V) {r : V} (h : T196 (orcE C) 0 0 0 0 y1 y2 = some r) : runE C 196 [V.sl y1 y2] = some r := ofR (F := fun s => T196 (orc C s.k) s.k s.m 0 0 y1 y2) (fun k => e196 k k
 0 0 y1 y2) (by
  unfold T196
  exact cC) h

noncomputable def T223 (O : Orc) (k m q0 q1 : Nat) (y1 : Nat) (y2 : List V) (y3 : Nat) (y4 : List V) : Option V := need (O.R 0 278 [V.sl y1 y2, V.fn 279 [V.pin [V.sl y3 y4] 0]]) fun x1 => asTup (some
 x1) fun x2 => PI.asInt .i64 x2[0]? fun x3 => some (V.tup [V.int .i64 x3])
theorem e223 (k m q0 q1 : Nat) (y1 : Nat) (y2 : List V) (y3 : Nat) (y4 : List V) : runV C (k + 1) 223 [V.sl y1 y2, V.sl y3 y4] = T223 (orc C k) k m q0 q1 y1 y2 y3 y4 := by kernel_rfl
theorem E223 (y1 : Nat) (y2 : List V) (y3 : Nat) (y4 : List V) {r : V} (h : T223 (orcE C) 0 0 0 0 y1 y2 y3 y4 = some r) : runE C 223 [V.sl y1 y2, V.sl y3 y4] = some r := ofR (F := fun s => T223 (orc C
 s.k) s.k s.m 0 0 y1 y2 y3 y4) (fun k => e223 k k 0 0 y1 y2 y3 y4) (by
  unfold T223
  repeat' first | with_reducible exact cC | with_reducible refine cN cR fun _ => ?_ | with_reducible refine cT fun _ => ?_ | with_reducible refine cI fun _ => ?_ | with_reducible refine cN cC fun _ => ?_ | with_reducible exact cR) h

noncomputable def T102 (O : Orc) (k m q0 q1 : Nat) (y1 : Int) : Option V := O.L 0 102 0 [true, true, false, true] [] k [(0, V.int .i64 y1), (3, V.ref 0), (4, V.int .i64 6)] [Ob.row 5 7 [V.int .u8 0,
 V.int .u8 0, V.int .u8 0, V.int .u8 0, V.int .u8 0, V.int .u8 0, V.int .u8 0] false]
theorem e102 (k m q0 q1 : Nat) (y1 : Int) : runV C (k + 1) 102 [V.int .i64 y1] = T102 (orc C k) k m q0 q1 y1 := by kernel_rfl
theorem E102 (y1 : Int) {r : V} (h : T102 (orcE C) 0 0 0 0 y1 = some r) : runE C 102 [V.int .i64 y1] = some r := ofR (F := fun s => T102 (orc C s.k) s.k s.m 0 0 y1) (fun k => e102 k k 0 0 y1) (by
  unfold T102
  repeat' first | with_reducible exact cC | exact cD0 gK) h

noncomputable def T100 (O : Orc) (k m q0 q1 : Nat) (y1 : Nat) (y2 : List V) : Option V := need (O.R 0 182 [V.sl y1 y2]) fun x1 => asTup (some x1) fun x2 => asSl x2[0]? fun x3 x4 => PI.asBool x2[1]? fun
 x5 => some (V.tup [V.sl x3 x4])
theorem e100 (k m q0 q1 : Nat) (y1 : Nat) (y2 : List V) : runV C (k + 1) 100 [V.sl y1 y2] = T100 (orc C k) k m q0 q1 y1 y2 := by kernel_rfl
theorem E100 (y1 : Nat) (y2 : List V) {r : V} (h : T100 (orcE C) 0 0 0 0 y1 y2 = some r) : runE C 100 [V.sl y1 y2] = some r := ofR (F := fun s => T100 (orc C s.k) s.k s.m 0 0 y1 y2) (fun k => e100 k k
 0 0 y1 y2) (by
  unfold T100
  repeat' first | with_reducible exact cC | with_reducible refine cN cR fun _ => ?_ | with_reducible refine cT fun _ => ?_ | with_reducible refine cB fun _ => ?_ | with_reducible refine cL fun _ _ => ?_ | with_reducible refine cN cC fun _ => ?_ | with_reducible exact cR) h

noncomputable def T216 (O : Orc) (k m q0 q1 : Nat) (y1 : ByteArray) (y2 : Nat) (y3 : List V) : Option V := must (y1.size.ble 140737488355328) (must (decide (y3.length = y2 * 1)) (must (true && (2 +
 y2).ble 140737488355328 && ((2 + y2) * 24).ble 140737488355328) (need (O.R 0 183 [V.sl (2 + y2) (V.sl 1 [V.int .u8 (IntKind.u8.wrap (↑y1.size : Int))] :: V.sl y1.size (bytesV y1.data.toList) :: y3)])
 fun x1 => asTup (some x1) fun x2 => asSl x2[0]? fun x3 x4 => some (V.tup [V.sl x3 x4]))))
theorem e216 (k m q0 q1 : Nat) (y1 : ByteArray) (y2 : Nat) (y3 : List V) : runV C (k + 1) 216 [V.str y1, V.sl y2 y3] = T216 (orc C k) k m q0 q1 y1 y2 y3 := by kernel_rfl
theorem E216 (y1 : ByteArray) (y2 : Nat) (y3 : List V) {r : V} (h : T216 (orcE C) 0 0 0 0 y1 y2 y3 = some r) : runE C 216 [V.str y1, V.sl y2 y3] = some r := ofR (F := fun s => T216 (orc C s.k) s.k s.m
 0 0 y1 y2 y3) (fun k => e216 k k 0 0 y1 y2 y3) (by
  unfold T216
  repeat' first | with_reducible exact cC | with_reducible refine cN cR fun _ => ?_ | with_reducible refine cT fun _ => ?_ | with_reducible refine cM ?_ | with_reducible refine cL fun _ _ => ?_ | with_reducible refine cN cC fun _ => ?_ | with_reducible exact cR) h

noncomputable def T195 (O : Orc) (k m q0 q1 : Nat) (y1 : Nat) (y2 : List V) : Option V := bif decide ((↑y1 : Int) > 0) then need (O.R 0 196 [V.sl y1 y2]) fun x1 => asTup (some x1) fun x2 => PI.asBool
 x2[0]? fun x3 => some (V.tup [V.bool !x3]) else some (V.tup [V.bool false])
theorem e195 (k m q0 q1 : Nat) (y1 : Nat) (y2 : List V) : runV C (k + 1) 195 [V.sl y1 y2] = T195 (orc C k) k m q0 q1 y1 y2 := by kernel_rfl
theorem E195 (y1 : Nat) (y2 : List V) {r : V} (h : T195 (orcE C) 0 0 0 0 y1 y2 = some r) : runE C 195 [V.sl y1 y2] = some r := ofR (F := fun s => T195 (orc C s.k) s.k s.m 0 0 y1 y2) (fun k => e195 k k
 0 0 y1 y2) (by
  unfold T195
  repeat' first | with_reducible exact cC | with_reducible refine cN cR fun _ => ?_ | with_reducible refine cT fun _ => ?_ | with_reducible refine cF ?_ ?_ | with_reducible refine cB fun _ => ?_ | with_reducible refine cN cC fun _ => ?_ | with_reducible exact cR) h

noncomputable def T184 (O : Orc) (k m q0 q1 : Nat) (y1 : Nat) (y2 : List V) : Option V := bif y1.beq (OfNat.ofNat 0) then both (some (V.tup [V.osl 0 []])) (must (decide (y2.length = y1 * 1)) (must
 (true && (0 + y1).ble 140737488355328 && ((0 + y1) * 1).ble 140737488355328) (must (false || y2.all flatV) (some (V.tup [V.osl (0 + y1) y2]))))) else must (decide (y2.length = y1 * 1)) (must (true &&
 (0 + y1).ble 140737488355328 && ((0 + y1) * 1).ble 140737488355328) (must (false || y2.all flatV) (some (V.tup [V.osl (0 + y1) y2]))))
theorem e184 (k m q0 q1 : Nat) (y1 : Nat) (y2 : List V) : runV C (k + 1) 184 [V.sl y1 y2] = T184 (orc C k) k m q0 q1 y1 y2 := by kernel_rfl
theorem E184 (y1 : Nat) (y2 : List V) {r : V} (h : T184 (orcE C) 0 0 0 0 y1 y2 = some r) : runE C 184 [V.sl y1 y2] = some r := ofR (F := fun s => T184 (orc C s.k) s.k s.m 0 0 y1 y2) (fun k => e184 k k
 0 0 y1 y2) (by
  unfold T184
  repeat' first | with_reducible exact cC | with_reducible refine cM ?_ | with_reducible refine cF ?_ ?_ | with_reducible refine cW ?_ ?_) h

noncomputable def T197l1 (O : Orc) (k m q0 q1 : Nat) (y1 : Nat) (y2 : List V) (y3 : Int) (y4 : Int) (y5 : Nat) (y6 : List V) : Option V := bif decide (y4 < y3) then must (inB y4 y1) (asSl y2[y4.toNat *
 2]? fun x1 x2 => PI.asInt .i64 y2[y4.toNat * 2 + 1]? fun x3 => need (O.R 0 184 [V.sl x1 x2]) fun x4 => asTup (some x4) fun x5 => asOsl x5[0]? fun x6 x7 => must (x7.all flatV) (must (true && (y5 +
 1).ble 140737488355328 && ((y5 + 1) * 32).ble 140737488355328) (O.L 0 197 0 [true, true, false, true] [] m [(3, V.ref 0), (7, V.sl y1 y2), (8, V.int .i64 y3), (9, V.int .i64 (IntKind.i64.wrap (y4 +
 1)))] [Ob.nrow [] 103 (y5 + 1) (y6 ++ [V.own false 5 1 x6 x7, V.int .i64 x3])]))) else some (V.tup [V.osl y5 y6])
theorem e197l1 (k m q0 q1 : Nat) (y1 : Nat) (y2 : List V) (y3 : Int) (y4 : Int) (y5 : Nat) (y6 : List V) : runL C k 197 0 [true, true, false, true] [] (m + 1) [(3, V.ref 0), (7, V.sl y1 y2), (8, V.int
 .i64 y3), (9, V.int .i64 y4)] [Ob.nrow [] 103 y5 y6] = T197l1 (orc C k) k m q0 q1 y1 y2 y3 y4 y5 y6 := by kernel_rfl
theorem E197l1 (y1 : Nat) (y2 : List V) (y3 : Int) (y4 : Int) (y5 : Nat) (y6 : List V) {r : V} (h : T197l1 (orcE C) 0 0 0 0 y1 y2 y3 y4 y5 y6 = some r) : loopE C 197 0 [true, true, false, true] [] [(3,
 V.ref 0), (7, V.sl y1 y2), (8, V.int .i64 y3), (9, V.int .i64 y4)] [Ob.nrow [] 103 y5 y6] = some r := ofL (j := 0) (F := fun s => T197l1 (orc C s.k) s.k s.m 0 0 y1 y2 y3 y4 y5 y6) (fs0 fun k m =>
 e197l1 k m 0 0 y1 y2 y3 y4 y5 y6) (by
  unfold T197l1
  repeat' first | with_reducible exact cC | with_reducible refine cN cR fun _ => ?_ | with_reducible refine cT fun _ => ?_ | with_reducible refine cI fun _ => ?_ | with_reducible refine cM ?_ | with_reducible refine cF ?_ ?_ | with_reducible refine cL fun _ _ => ?_ | with_reducible refine cO fun _ _ => ?_ | with_reducible refine cN cC fun _ => ?_ | with_reducible exact cR | exact cD0 gM) h

noncomputable def T198l1 (O : Orc) (k m q0 q1 : Nat) (y1 : Nat) (y2 : List V) (y3 : Int) (y4 : Int) (y5 : Nat) (y6 : List V) : Option V := bif decide (y4 < y3) then must (inB y4 y1) (must (decide
 (y4.toNat * 1 < y2.length)) (asSl y2[y4.toNat * 1]? fun x1 x2 => need (O.R 0 184 [V.sl x1 x2]) fun x3 => asTup (some x3) fun x4 => asOsl x4[0]? fun x5 x6 => must (x6.all flatV) (must (true && (y5 +
 1).ble 140737488355328 && ((y5 + 1) * 24).ble 140737488355328) (O.L 0 198 0 [true, true, false, true] [] m [(3, V.ref 0), (7, V.sl y1 y2), (8, V.int .i64 y3), (9, V.int .i64 (IntKind.i64.wrap (y4 +
 1)))] [Ob.nrow [] 22 (y5 + 1) (y6 ++ [V.own false 5 1 x5 x6])])))) else some (V.tup [V.osl y5 y6])
theorem e198l1 (k m q0 q1 : Nat) (y1 : Nat) (y2 : List V) (y3 : Int) (y4 : Int) (y5 : Nat) (y6 : List V) : runL C k 198 0 [true, true, false, true] [] (m + 1) [(3, V.ref 0), (7, V.sl y1 y2), (8, V.int
 .i64 y3), (9, V.int .i64 y4)] [Ob.nrow [] 22 y5 y6] = T198l1 (orc C k) k m q0 q1 y1 y2 y3 y4 y5 y6 := by kernel_rfl
theorem E198l1 (y1 : Nat) (y2 : List V) (y3 : Int) (y4 : Int) (y5 : Nat) (y6 : List V) {r : V} (h : T198l1 (orcE C) 0 0 0 0 y1 y2 y3 y4 y5 y6 = some r) : loopE C 198 0 [true, true, false, true] [] [(3,
 V.ref 0), (7, V.sl y1 y2), (8, V.int .i64 y3), (9, V.int .i64 y4)] [Ob.nrow [] 22 y5 y6] = some r := ofL (j := 0) (F := fun s => T198l1 (orc C s.k) s.k s.m 0 0 y1 y2 y3 y4 y5 y6) (fs0 fun k m =>
 e198l1 k m 0 0 y1 y2 y3 y4 y5 y6) (by
  unfold T198l1
  repeat' first | with_reducible exact cC | with_reducible refine cN cR fun _ => ?_ | with_reducible refine cT fun _ => ?_ | with_reducible refine cM ?_ | with_reducible refine cF ?_ ?_ | with_reducible refine cL fun _ _ => ?_ | with_reducible refine cO fun _ _ => ?_ | with_reducible refine cN cC fun _ => ?_ | with_reducible exact cR | exact cD0 gM) h

noncomputable def T254l1 (O : Orc) (k m q0 q1 : Nat) (y1 : Nat) (y2 : List V) (y3 : Int) (y4 : Int) : Option V := bif decide (y4 < (↑y1 : Int)) then must (inB y4 y1) (PI.asInt .u8 y2[y4.toNat * 1]? fun
 x1 => bif x1 != IntKind.u8.wrap y3 then some (V.tup [V.int .i64 (-1)]) else O.L 0 254 0 [true, false, true] [] m [(0, V.sl y1 y2), (1, V.int .i64 (IntKind.i64.wrap (y3 + 1))), (5, V.int .i64
 (IntKind.i64.wrap (y4 + 1)))] []) else some (V.tup [V.int .i64 y3])
theorem e254l1 (k m q0 q1 : Nat) (y1 : Nat) (y2 : List V) (y3 : Int) (y4 : Int) : runL C k 254 0 [true, false, true] [] (m + 1) [(0, V.sl y1 y2), (1, V.int .i64 y3), (5, V.int .i64 y4)] [] = T254l1
 (orc C k) k m q0 q1 y1 y2 y3 y4 := by kernel_rfl
theorem E254l1 (y1 : Nat) (y2 : List V) (y3 : Int) (y4 : Int) {r : V} (h : T254l1 (orcE C) 0 0 0 0 y1 y2 y3 y4 = some r) : loopE C 254 0 [true, false, true] [] [(0, V.sl y1 y2), (1, V.int .i64 y3), (5,
 V.int .i64 y4)] [] = some r := ofL (j := 0) (F := fun s => T254l1 (orc C s.k) s.k s.m 0 0 y1 y2 y3 y4) (fs0 fun k m => e254l1 k m 0 0 y1 y2 y3 y4) (by
  unfold T254l1
  repeat' first | with_reducible exact cC | with_reducible refine cI fun _ => ?_ | with_reducible refine cM ?_ | with_reducible refine cF ?_ ?_ | exact cD0 gM) h

noncomputable def T188l1 (O : Orc) (k m q0 q1 : Nat) (y1 : Int) (y2 : Int) (y3 : Nat) (y4 : List V) : Option V := bif decide (y2 ≥ 0) then must (decide (0 ≤ IntKind.u64.wrap (IntKind.i64.wrap (8 *
 y2)))) (must (true && (y3 + 1).ble 140737488355328 && ((y3 + 1) * 1).ble 140737488355328) (O.L 0 188 0 [true, true, false, true] [] m [(0, V.int .i64 y1), (3, V.ref 0), (4, V.int .i64
 (IntKind.i64.wrap (y2 - 1)))] [Ob.row 5 (y3 + 1) (y4 ++ [V.int .u8 (IntKind.u8.wrap (y1.fdiv (2 ^ min (IntKind.u64.wrap (IntKind.i64.wrap (8 * y2))).toNat 64)))]) false])) else some (V.tup [V.sl y3
 y4])
theorem e188l1 (k m q0 q1 : Nat) (y1 : Int) (y2 : Int) (y3 : Nat) (y4 : List V) : runL C k 188 0 [true, true, false, true] [] (m + 1) [(0, V.int .i64 y1), (3, V.ref 0), (4, V.int .i64 y2)] [Ob.row 5 y3
 y4 false] = T188l1 (orc C k) k m q0 q1 y1 y2 y3 y4 := by kernel_rfl
theorem E188l1 (y1 : Int) (y2 : Int) (y3 : Nat) (y4 : List V) {r : V} (h : T188l1 (orcE C) 0 0 0 0 y1 y2 y3 y4 = some r) : loopE C 188 0 [true, true, false, true] [] [(0, V.int .i64 y1), (3, V.ref 0),
 (4, V.int .i64 y2)] [Ob.row 5 y3 y4 false] = some r := ofL (j := 0) (F := fun s => T188l1 (orc C s.k) s.k s.m 0 0 y1 y2 y3 y4) (fs0 fun k m => e188l1 k m 0 0 y1 y2 y3 y4) (by
  unfold T188l1
  repeat' first | with_reducible exact cC | with_reducible refine cM ?_ | with_reducible refine cF ?_ ?_ | exact cD0 gM) h

noncomputable def T111l1 (O : Orc) (k m q0 q1 : Nat) (y1 : Nat) (y2 : List V) (y3 : Int) (y4 : Nat) (y5 : List V) : Option V := bif decide (y3 < (↑y1 : Int)) then must (inB y3 y1) (must (decide
 (y3.toNat * 1 < y2.length)) (asSl y2[y3.toNat * 1]? fun x1 x2 => must (inB y3 y1) (must (decide (y3.toNat * 1 < y2.length)) (must (true && (y4 + 1).ble 140737488355328 && ((y4 + 1) * 1).ble
 140737488355328) (asSl y2[y3.toNat * 1]? fun x3 x4 => must (decide (x4.length = x3 * 1)) (must (true && (y4 + 1 + x3).ble 140737488355328 && ((y4 + 1 + x3) * 1).ble 140737488355328) (O.L 0 111 0
 [true, true, false, true] [] m [(0, V.sl y1 y2), (3, V.ref 0), (4, V.int .i64 (IntKind.i64.wrap (y3 + 1)))] [Ob.row 5 (y4 + 1 + x3) (y5 ++ [V.int .u8 (IntKind.u8.wrap (↑x1 : Int))] ++ x4)
 false]))))))) else some (V.tup [V.sl y4 y5])
theorem e111l1 (k m q0 q1 : Nat) (y1 : Nat) (y2 : List V) (y3 : Int) (y4 : Nat) (y5 : List V) : runL C k 111 0 [true, true, false, true] [] (m + 1) [(0, V.sl y1 y2), (3, V.ref 0), (4, V.int .i64 y3)]
 [Ob.row 5 y4 y5 false] = T111l1 (orc C k) k m q0 q1 y1 y2 y3 y4 y5 := by kernel_rfl
theorem E111l1 (y1 : Nat) (y2 : List V) (y3 : Int) (y4 : Nat) (y5 : List V) {r : V} (h : T111l1 (orcE C) 0 0 0 0 y1 y2 y3 y4 y5 = some r) : loopE C 111 0 [true, true, false, true] [] [(0, V.sl y1 y2),
 (3, V.ref 0), (4, V.int .i64 y3)] [Ob.row 5 y4 y5 false] = some r := ofL (j := 0) (F := fun s => T111l1 (orc C s.k) s.k s.m 0 0 y1 y2 y3 y4 y5) (fs0 fun k m => e111l1 k m 0 0 y1 y2 y3 y4 y5) (by
  unfold T111l1
  repeat' first | with_reducible exact cC | with_reducible refine cM ?_ | with_reducible refine cF ?_ ?_ | with_reducible refine cL fun _ _ => ?_ | exact cD0 gM) h

noncomputable def T187 (O : Orc) (k m q0 q1 : Nat) (y1 : Nat) (y2 : List V) : Option V := need (O.R 0 249 []) fun x1 => PI.asAgg (some x1) fun x2 => must (x2.length.beq 64 && true && (0 +
 x2.length).ble 64 && flatB C 280 x2) (need (O.R 0 250 []) fun x3 => asTup (some x3) fun x4 => PI.asInt .i64 x4[0]? fun x5 => PI.asInt .i64 x4[1]? fun x6 => PI.asInt .i64 x4[2]? fun x7 => PI.asInt .i64
 x4[3]? fun x8 => PI.asInt .i64 x4[4]? fun x9 => PI.asInt .i64 x4[5]? fun x10 => PI.asInt .i64 x4[6]? fun x11 => PI.asInt .i64 x4[7]? fun x12 => need (O.R 0 251 [V.sl y1 y2]) fun x13 => asTup (some
 x13) fun x14 => asSl x14[0]? fun x15 x16 => O.L 0 187 0 [true, true, true, true, false, true] [] k [(3, V.ptr 0 0), (4, V.ptr 1 0), (5, V.sl x15 x16), (6, V.int .i64 0)] [Ob.box 280 (splice [V.int
 .i64 0, V.int .i64 0, V.int .i64 0, V.int .i64 0, V.int .i64 0, V.int .i64 0, V.int .i64 0, V.int .i64 0, V.int .i64 0, V.int .i64 0, V.int .i64 0, V.int .i64 0, V.int .i64 0, V.int .i64 0, V.int .i64
 0, V.int .i64 0, V.int .i64 0, V.int .i64 0, V.int .i64 0, V.int .i64 0, V.int .i64 0, V.int .i64 0, V.int .i64 0, V.int .i64 0, V.int .i64 0, V.int .i64 0, V.int .i64 0, V.int .i64 0, V.int .i64 0,
 V.int .i64 0, V.int .i64 0, V.int .i64 0, V.int .i64 0, V.int .i64 0, V.int .i64 0, V.int .i64 0, V.int .i64 0, V.int .i64 0, V.int .i64 0, V.int .i64 0, V.int .i64 0, V.int .i64 0, V.int .i64 0,
 V.int .i64 0, V.int .i64 0, V.int .i64 0, V.int .i64 0, V.int .i64 0, V.int .i64 0, V.int .i64 0, V.int .i64 0, V.int .i64 0, V.int .i64 0, V.int .i64 0, V.int .i64 0, V.int .i64 0, V.int .i64 0,
 V.int .i64 0, V.int .i64 0, V.int .i64 0, V.int .i64 0, V.int .i64 0, V.int .i64 0, V.int .i64 0] 0 x2) false, Ob.box 282 [V.int .i64 x5, V.int .i64 x6, V.int .i64 x7, V.int .i64 x8, V.int .i64 x9,
 V.int .i64 x10, V.int .i64 x11, V.int .i64 x12] false])
theorem e187 (k m q0 q1 : Nat) (y1 : Nat) (y2 : List V) : runV C (k + 1) 187 [V.sl y1 y2] = T187 (orc C k) k m q0 q1 y1 y2 := by kernel_rfl
theorem E187 (y1 : Nat) (y2 : List V) {r : V} (h : T187 (orcE C) 0 0 0 0 y1 y2 = some r) : runE C 187 [V.sl y1 y2] = some r := ofR (F := fun s => T187 (orc C s.k) s.k s.m 0 0 y1 y2) (fun k => e187 k k
 0 0 y1 y2) (by
  unfold T187
  repeat' first | with_reducible exact cC | with_reducible refine cN cR fun _ => ?_ | with_reducible refine cT fun _ => ?_ | with_reducible refine cI fun _ => ?_ | with_reducible refine cM ?_ | with_reducible refine cL fun _ _ => ?_ | with_reducible refine cA fun _ => ?_ | with_reducible refine cN cC fun _ => ?_ | with_reducible exact cR | exact cD0 gK) h

noncomputable def T211l2 (O : Orc) (k m q0 q1 : Nat) (y1 : Nat) (y2 : List V) (y3 : Int) (y4 : Int) : Option V := bif decide (y4 < y3) then must (inB y4 y1) (must (decide (y4.toNat * 1 < y2.length))
 (asSl y2[y4.toNat * 1]? fun x1 x2 => need (O.R 0 247 [V.sl x1 x2]) fun x3 => asTup (some x3) fun x4 => PI.asBool x4[0]? fun x5 => bif x5 then some (V.tup [V.int .i64 y4]) else O.L 0 211 0 [true,
 false, true] [] m [(0, V.sl y1 y2), (1, V.fn 247 []), (7, V.int .i64 y3), (8, V.int .i64 (IntKind.i64.wrap (y4 + 1)))] [])) else some (V.tup [V.int .i64 (-1)])
theorem e211l2 (k m q0 q1 : Nat) (y1 : Nat) (y2 : List V) (y3 : Int) (y4 : Int) : runL C k 211 0 [true, false, true] [] (m + 1) [(0, V.sl y1 y2), (1, V.fn 247 []), (7, V.int .i64 y3), (8, V.int .i64
 y4)] [] = T211l2 (orc C k) k m q0 q1 y1 y2 y3 y4 := by kernel_rfl
theorem E211l2 (y1 : Nat) (y2 : List V) (y3 : Int) (y4 : Int) {r : V} (h : T211l2 (orcE C) 0 0 0 0 y1 y2 y3 y4 = some r) : loopE C 211 0 [true, false, true] [] [(0, V.sl y1 y2), (1, V.fn 247 []), (7,
 V.int .i64 y3), (8, V.int .i64 y4)] [] = some r := ofL (j := 0) (F := fun s => T211l2 (orc C s.k) s.k s.m 0 0 y1 y2 y3 y4) (fs0 fun k m => e211l2 k m 0 0 y1 y2 y3 y4) (by
  unfold T211l2
  repeat' first | with_reducible exact cC | with_reducible refine cN cR fun _ => ?_ | with_reducible refine cT fun _ => ?_ | with_reducible refine cM ?_ | with_reducible refine cF ?_ ?_ | with_reducible refine cB fun _ => ?_ | with_reducible refine cL fun _ _ => ?_ | with_reducible refine cN cC fun _ => ?_ | with_reducible exact cR | exact cD0 gM) h

noncomputable def T278 (O : Orc) (k m q0 q1 : Nat) (y1 : Nat) (y2 : List V) (y3 : Nat) (y4 : List V) : Option V := O.L 0 278 0 [true, false, true] [] k [(0, V.sl y1 y2), (1, V.fn 279 [V.pin [V.sl y3
 y4] 0]), (7, V.int .i64 (↑y1 : Int)), (8, V.int .i64 0)] []
theorem e278 (k m q0 q1 : Nat) (y1 : Nat) (y2 : List V) (y3 : Nat) (y4 : List V) : runV C (k + 1) 278 [V.sl y1 y2, V.fn 279 [V.pin [V.sl y3 y4] 0]] = T278 (orc C k) k m q0 q1 y1 y2 y3 y4 := by
 kernel_rfl
theorem E278 (y1 : Nat) (y2 : List V) (y3 : Nat) (y4 : List V) {r : V} (h : T278 (orcE C) 0 0 0 0 y1 y2 y3 y4 = some r) : runE C 278 [V.sl y1 y2, V.fn 279 [V.pin [V.sl y3 y4] 0]] = some r := ofR (F :=
 fun s => T278 (orc C s.k) s.k s.m 0 0 y1 y2 y3 y4) (fun k => e278 k k 0 0 y1 y2 y3 y4) (by
  unfold T278
  repeat' first | with_reducible exact cC | exact cD0 gK) h

noncomputable def T102l1 (O : Orc) (k m q0 q1 : Nat) (y1 : Int) (y2 : Int) (y3 : Nat) (y4 : List V) : Option V := bif decide (y2 ≥ 0) then must (inB y2 y3) (must ([V.int .u8 (IntKind.u8.wrap
 y1)].length.beq 1 && (y2.toNat * 1 + [V.int .u8 (IntKind.u8.wrap y1)].length).ble y4.length) (O.L 0 102 0 [true, true, false, true] [] m [(0, V.int .i64 (y1.fdiv 256)), (3, V.ref 0), (4, V.int .i64
 (IntKind.i64.wrap (y2 - 1)))] [Ob.row 5 y3 (splice y4 (y2.toNat * 1) [V.int .u8 (IntKind.u8.wrap y1)]) false])) else some (V.tup [V.sl y3 y4])
theorem e102l1 (k m q0 q1 : Nat) (y1 : Int) (y2 : Int) (y3 : Nat) (y4 : List V) : runL C k 102 0 [true, true, false, true] [] (m + 1) [(0, V.int .i64 y1), (3, V.ref 0), (4, V.int .i64 y2)] [Ob.row 5 y3
 y4 false] = T102l1 (orc C k) k m q0 q1 y1 y2 y3 y4 := by kernel_rfl
theorem E102l1 (y1 : Int) (y2 : Int) (y3 : Nat) (y4 : List V) {r : V} (h : T102l1 (orcE C) 0 0 0 0 y1 y2 y3 y4 = some r) : loopE C 102 0 [true, true, false, true] [] [(0, V.int .i64 y1), (3, V.ref 0),
 (4, V.int .i64 y2)] [Ob.row 5 y3 y4 false] = some r := ofL (j := 0) (F := fun s => T102l1 (orc C s.k) s.k s.m 0 0 y1 y2 y3 y4) (fs0 fun k m => e102l1 k m 0 0 y1 y2 y3 y4) (by
  unfold T102l1
  repeat' first | with_reducible exact cC | with_reducible refine cM ?_ | with_reducible refine cF ?_ ?_ | exact cD0 gM) h

noncomputable def T182 (O : Orc) (k m q0 q1 : Nat) (y1 : Nat) (y2 : List V) : Option V := bif decide ((↑y1 : Int) > 60) then some (V.tup [V.sl 0 [], V.bool false]) else O.L 0 182 0 [true, true, true,
 false, true] [] k [(4, V.ref 0), (11, V.sl y1 y2), (12, V.int .i64 (↑y1 : Int)), (13, V.int .i64 0)] [Ob.row 5 0 [] false]
theorem e182 (k m q0 q1 : Nat) (y1 : Nat) (y2 : List V) : runV C (k + 1) 182 [V.sl y1 y2] = T182 (orc C k) k m q0 q1 y1 y2 := by kernel_rfl
theorem E182 (y1 : Nat) (y2 : List V) {r : V} (h : T182 (orcE C) 0 0 0 0 y1 y2 = some r) : runE C 182 [V.sl y1 y2] = some r := ofR (F := fun s => T182 (orc C s.k) s.k s.m 0 0 y1 y2) (fun k => e182 k k
 0 0 y1 y2) (by
  unfold T182
  repeat' first | with_reducible exact cC | with_reducible refine cF ?_ ?_ | exact cD0 gK) h

noncomputable def T183 (O : Orc) (k m q0 q1 : Nat) (y1 : Nat) (y2 : List V) : Option V := O.L 0 183 0 [true, true, false, true] [] k [(3, V.ref 0), (13, V.sl y1 y2), (14, V.int .i64 (↑y1 : Int)), (15,
 V.int .i64 0)] [Ob.row 5 0 [] false]
theorem e183 (k m q0 q1 : Nat) (y1 : Nat) (y2 : List V) : runV C (k + 1) 183 [V.sl y1 y2] = T183 (orc C k) k m q0 q1 y1 y2 := by kernel_rfl
theorem E183 (y1 : Nat) (y2 : List V) {r : V} (h : T183 (orcE C) 0 0 0 0 y1 y2 = some r) : runE C 183 [V.sl y1 y2] = some r := ofR (F := fun s => T183 (orc C s.k) s.k s.m 0 0 y1 y2) (fun k => e183 k k
 0 0 y1 y2) (by
  unfold T183
  repeat' first | with_reducible exact cC | exact cD0 gK) h

noncomputable def T249 (O : Orc) (k m q0 q1 : Nat)  : Option V := some (V.agg [V.int .i64 1116352408, V.int .i64 1899447441, V.int .i64 3049323471, V.int .i64 3921009573, V.int .i64 961987163, V.int
 .i64 1508970993, V.int .i64 2453635748, V.int .i64 2870763221, V.int .i64 3624381080, V.int .i64 310598401, V.int .i64 607225278, V.int .i64 1426881987, V.int .i64 1925078388, V.int .i64 2162078206,
 V.int .i64 2614888103, V.int .i64 3248222580, V.int .i64 3835390401, V.int .i64 4022224774, V.int .i64 264347078, V.int .i64 604807628, V.int .i64 770255983, V.int .i64 1249150122, V.int .i64
 1555081692, V.int .i64 1996064986, V.int .i64 2554220882, V.int .i64 2821834349, V.int .i64 2952996808, V.int .i64 3210313671, V.int .i64 3336571891, V.int .i64 3584528711, V.int .i64 113926993, V.int
 .i64 338241895, V.int .i64 666307205, V.int .i64 773529912, V.int .i64 1294757372, V.int .i64 1396182291, V.int .i64 1695183700, V.int .i64 1986661051, V.int .i64 2177026350, V.int .i64 2456956037,
 V.int .i64 2730485921, V.int .i64 2820302411, V.int .i64 3259730800, V.int .i64 3345764771, V.int .i64 3516065817, V.int .i64 3600352804, V.int .i64 4094571909, V.int .i64 275423344, V.int .i64
 430227734, V.int .i64 506948616, V.int .i64 659060556, V.int .i64 883997877, V.int .i64 958139571, V.int .i64 1322822218, V.int .i64 1537002063, V.int .i64 1747873779, V.int .i64 1955562222, V.int
 .i64 2024104815, V.int .i64 2227730452, V.int .i64 2361852424, V.int .i64 2428436474, V.int .i64 2756734187, V.int .i64 3204031479, V.int .i64 3329325298])
theorem e249 (k m q0 q1 : Nat)  : runV C (k + 1) 249 [] = T249 (orc C k) k m q0 q1  := by kernel_rfl
theorem E249  {r : V} (h : T249 (orcE C) 0 0 0 0  = some r) : runE C 249 [] = some r := ofR (F := fun s => T249 (orc C s.k) s.k s.m 0 0 ) (fun k => e249 k k 0 0 ) (by
  unfold T249
  exact cC) h

noncomputable def T250 (O : Orc) (k m q0 q1 : Nat)  : Option V := some (V.tup [V.int .i64 1779033703, V.int .i64 3144134277, V.int .i64 1013904242, V.int .i64 2773480762, V.int .i64 1359893119, V.int
 .i64 2600822924, V.int .i64 528734635, V.int .i64 1541459225])
theorem e250 (k m q0 q1 : Nat)  : runV C (k + 1) 250 [] = T250 (orc C k) k m q0 q1  := by kernel_rfl
theorem E250  {r : V} (h : T250 (orcE C) 0 0 0 0  = some r) : runE C 250 [] = some r := ofR (F := fun s => T250 (orc C s.k) s.k s.m 0 0 ) (fun k => e250 k k 0 0 ) (by
  unfold T250
  exact cC) h

noncomputable def T251 (O : Orc) (k m q0 q1 : Nat) (y1 : Nat) (y2 : List V) : Option V := must (decide (y2.length = y1 * 1)) (must (true && (0 + y1).ble 140737488355328 && ((0 + y1) * 1).ble
 140737488355328) (must (true && (0 + y1 + 1).ble 140737488355328 && ((0 + y1 + 1) * 1).ble 140737488355328) (O.L 0 251 0 [true, true, false] [] k [(0, V.sl y1 y2), (3, V.ref 0)] [Ob.row 5 (0 + y1 + 1)
 (y2 ++ [V.int .u8 128]) false])))
theorem e251 (k m q0 q1 : Nat) (y1 : Nat) (y2 : List V) : runV C (k + 1) 251 [V.sl y1 y2] = T251 (orc C k) k m q0 q1 y1 y2 := by kernel_rfl
theorem E251 (y1 : Nat) (y2 : List V) {r : V} (h : T251 (orcE C) 0 0 0 0 y1 y2 = some r) : runE C 251 [V.sl y1 y2] = some r := ofR (F := fun s => T251 (orc C s.k) s.k s.m 0 0 y1 y2) (fun k => e251 k k
 0 0 y1 y2) (by
  unfold T251
  repeat' first | with_reducible exact cC | with_reducible refine cM ?_ | exact cD0 gK) h

noncomputable def T187l1 (O : Orc) (k m q0 q1 : Nat) (y1 : Nat) (y2 : List V) (y3 : Int) (y4 : List V) (y5 : List V) : Option V := bif decide (y3 < (↑y1 : Int)) then O.L 0 187 2 [true, true, true,
 true, false, true, false, true, false, false, true, false, true] [m] k [(3, V.ptr 0 0), (4, V.ptr 1 0), (5, V.sl y1 y2), (6, V.int .i64 y3), (7, V.ptr 2 0), (8, V.int .i64 0)] [Ob.box 280 y4 false,
 Ob.box 282 y5 false, Ob.box 280 [V.int .i64 0, V.int .i64 0, V.int .i64 0, V.int .i64 0, V.int .i64 0, V.int .i64 0, V.int .i64 0, V.int .i64 0, V.int .i64 0, V.int .i64 0, V.int .i64 0, V.int .i64 0,
 V.int .i64 0, V.int .i64 0, V.int .i64 0, V.int .i64 0, V.int .i64 0, V.int .i64 0, V.int .i64 0, V.int .i64 0, V.int .i64 0, V.int .i64 0, V.int .i64 0, V.int .i64 0, V.int .i64 0, V.int .i64 0,
 V.int .i64 0, V.int .i64 0, V.int .i64 0, V.int .i64 0, V.int .i64 0, V.int .i64 0, V.int .i64 0, V.int .i64 0, V.int .i64 0, V.int .i64 0, V.int .i64 0, V.int .i64 0, V.int .i64 0, V.int .i64 0,
 V.int .i64 0, V.int .i64 0, V.int .i64 0, V.int .i64 0, V.int .i64 0, V.int .i64 0, V.int .i64 0, V.int .i64 0, V.int .i64 0, V.int .i64 0, V.int .i64 0, V.int .i64 0, V.int .i64 0, V.int .i64 0,
 V.int .i64 0, V.int .i64 0, V.int .i64 0, V.int .i64 0, V.int .i64 0, V.int .i64 0, V.int .i64 0, V.int .i64 0, V.int .i64 0, V.int .i64 0] false] else O.L 0 187 10 [true, true, true, true, true,
 true, false, true] [] k [(4, V.ptr 0 0), (17, V.ref 1), (18, V.int .i64 0)] [Ob.box 282 y5 false, Ob.row 5 0 [] false]
theorem e187l1 (k m q0 q1 : Nat) (y1 : Nat) (y2 : List V) (y3 : Int) (y4 : List V) (y5 : List V) : runL C k 187 0 [true, true, true, true, false, true] [] (m + 1) [(3, V.ptr 0 0), (4, V.ptr 1 0), (5,
 V.sl y1 y2), (6, V.int .i64 y3)] [Ob.box 280 y4 false, Ob.box 282 y5 false] = T187l1 (orc C k) k m q0 q1 y1 y2 y3 y4 y5 := by kernel_rfl
theorem E187l1 (y1 : Nat) (y2 : List V) (y3 : Int) (y4 : List V) (y5 : List V) {r : V} (h : T187l1 (orcE C) 0 0 0 0 y1 y2 y3 y4 y5 = some r) : loopE C 187 0 [true, true, true, true, false, true] []
 [(3, V.ptr 0 0), (4, V.ptr 1 0), (5, V.sl y1 y2), (6, V.int .i64 y3)] [Ob.box 280 y4 false, Ob.box 282 y5 false] = some r := ofL (j := 0) (F := fun s => T187l1 (orc C s.k) s.k s.m 0 0 y1 y2 y3 y4 y5)
 (fs0 fun k m => e187l1 k m 0 0 y1 y2 y3 y4 y5) (by
  unfold T187l1
  repeat' first | with_reducible exact cC | with_reducible refine cF ?_ ?_ | exact cD0 gK | exact cD1 gK gM) h

noncomputable def T247 (O : Orc) (k m q0 q1 : Nat) (y1 : Nat) (y2 : List V) : Option V := need (O.R 0 196 [V.sl y1 y2]) fun x1 => asTup (some x1) fun x2 => PI.asBool x2[0]? fun x3 => some (V.tup
 [V.bool !x3])
theorem e247 (k m q0 q1 : Nat) (y1 : Nat) (y2 : List V) : runV C (k + 1) 247 [V.sl y1 y2] = T247 (orc C k) k m q0 q1 y1 y2 := by kernel_rfl
theorem E247 (y1 : Nat) (y2 : List V) {r : V} (h : T247 (orcE C) 0 0 0 0 y1 y2 = some r) : runE C 247 [V.sl y1 y2] = some r := ofR (F := fun s => T247 (orc C s.k) s.k s.m 0 0 y1 y2) (fun k => e247 k k
 0 0 y1 y2) (by
  unfold T247
  repeat' first | with_reducible exact cC | with_reducible refine cN cR fun _ => ?_ | with_reducible refine cT fun _ => ?_ | with_reducible refine cB fun _ => ?_ | with_reducible refine cN cC fun _ => ?_ | with_reducible exact cR) h

noncomputable def T278l1 (O : Orc) (k m q0 q1 : Nat) (y1 : Nat) (y2 : List V) (y3 : Nat) (y4 : List V) (y5 : Int) (y6 : Int) : Option V := bif decide (y6 < y5) then must (inB y6 y1) (asSl y2[y6.toNat *
 2]? fun x1 x2 => PI.asInt .i64 y2[y6.toNat * 2 + 1]? fun x3 => need (O.R 0 279 [V.agg [V.sl x1 x2, V.int .i64 x3], V.pin [V.sl y3 y4] 0]) fun x4 => asTup (some x4) fun x5 => PI.asBool x5[0]? fun x6 =>
 bif x6 then some (V.tup [V.int .i64 y6]) else O.L 0 278 0 [true, false, true] [] m [(0, V.sl y1 y2), (1, V.fn 279 [V.pin [V.sl y3 y4] 0]), (7, V.int .i64 y5), (8, V.int .i64 (IntKind.i64.wrap (y6 +
 1)))] []) else some (V.tup [V.int .i64 (-1)])
theorem e278l1 (k m q0 q1 : Nat) (y1 : Nat) (y2 : List V) (y3 : Nat) (y4 : List V) (y5 : Int) (y6 : Int) : runL C k 278 0 [true, false, true] [] (m + 1) [(0, V.sl y1 y2), (1, V.fn 279 [V.pin [V.sl y3
 y4] 0]), (7, V.int .i64 y5), (8, V.int .i64 y6)] [] = T278l1 (orc C k) k m q0 q1 y1 y2 y3 y4 y5 y6 := by kernel_rfl
theorem E278l1 (y1 : Nat) (y2 : List V) (y3 : Nat) (y4 : List V) (y5 : Int) (y6 : Int) {r : V} (h : T278l1 (orcE C) 0 0 0 0 y1 y2 y3 y4 y5 y6 = some r) : loopE C 278 0 [true, false, true] [] [(0, V.sl
 y1 y2), (1, V.fn 279 [V.pin [V.sl y3 y4] 0]), (7, V.int .i64 y5), (8, V.int .i64 y6)] [] = some r := ofL (j := 0) (F := fun s => T278l1 (orc C s.k) s.k s.m 0 0 y1 y2 y3 y4 y5 y6) (fs0 fun k m =>
 e278l1 k m 0 0 y1 y2 y3 y4 y5 y6) (by
  unfold T278l1
  repeat' first | with_reducible exact cC | with_reducible refine cN cR fun _ => ?_ | with_reducible refine cT fun _ => ?_ | with_reducible refine cI fun _ => ?_ | with_reducible refine cM ?_ | with_reducible refine cF ?_ ?_ | with_reducible refine cB fun _ => ?_ | with_reducible refine cL fun _ _ => ?_ | with_reducible refine cN cC fun _ => ?_ | with_reducible exact cR | exact cD0 gM) h

noncomputable def T182l1 (O : Orc) (k m q0 q1 : Nat) (y1 : Nat) (y2 : List V) (y3 : Int) (y4 : Int) (y5 : Nat) (y6 : List V) : Option V := bif decide (y4 < y3) then must (inB y4 y1) (must (decide
 (y4.toNat * 1 < y2.length)) (asSl y2[y4.toNat * 1]? fun x1 x2 => bif decide ((↑x1 : Int) > 200) then some (V.tup [V.sl 0 [], V.bool false]) else asSl y2[y4.toNat * 1]? fun x3 x4 => bif decide
 (IntKind.i64.wrap (IntKind.i64.wrap ((↑y5 : Int) + 1) + (↑x3 : Int)) > 4000) then some (V.tup [V.sl 0 [], V.bool false]) else asSl y2[y4.toNat * 1]? fun x5 x6 => must (true && (y5 + 1).ble
 140737488355328 && ((y5 + 1) * 1).ble 140737488355328) (asSl y2[y4.toNat * 1]? fun x7 x8 => must (decide (x8.length = x7 * 1)) (must (true && (y5 + 1 + x7).ble 140737488355328 && ((y5 + 1 + x7) *
 1).ble 140737488355328) (O.L 0 182 0 [true, true, true, false, true] [] m [(4, V.ref 0), (11, V.sl y1 y2), (12, V.int .i64 y3), (13, V.int .i64 (IntKind.i64.wrap (y4 + 1)))] [Ob.row 5 (y5 + 1 + x7)
 (y6 ++ [V.int .u8 (IntKind.u8.wrap (↑x5 : Int))] ++ x8) false]))))) else some (V.tup [V.sl y5 y6, V.bool true])
theorem e182l1 (k m q0 q1 : Nat) (y1 : Nat) (y2 : List V) (y3 : Int) (y4 : Int) (y5 : Nat) (y6 : List V) : runL C k 182 0 [true, true, true, false, true] [] (m + 1) [(4, V.ref 0), (11, V.sl y1 y2),
 (12, V.int .i64 y3), (13, V.int .i64 y4)] [Ob.row 5 y5 y6 false] = T182l1 (orc C k) k m q0 q1 y1 y2 y3 y4 y5 y6 := by kernel_rfl
theorem E182l1 (y1 : Nat) (y2 : List V) (y3 : Int) (y4 : Int) (y5 : Nat) (y6 : List V) {r : V} (h : T182l1 (orcE C) 0 0 0 0 y1 y2 y3 y4 y5 y6 = some r) : loopE C 182 0 [true, true, true, false, true]
 [] [(4, V.ref 0), (11, V.sl y1 y2), (12, V.int .i64 y3), (13, V.int .i64 y4)] [Ob.row 5 y5 y6 false] = some r := ofL (j := 0) (F := fun s => T182l1 (orc C s.k) s.k s.m 0 0 y1 y2 y3 y4 y5 y6) (fs0 fun
 k m => e182l1 k m 0 0 y1 y2 y3 y4 y5 y6) (by
  unfold T182l1
  repeat' first | with_reducible exact cC | with_reducible refine cM ?_ | with_reducible refine cF ?_ ?_ | with_reducible refine cL fun _ _ => ?_ | exact cD0 gM) h

noncomputable def T183l1 (O : Orc) (k m q0 q1 : Nat) (y1 : Nat) (y2 : List V) (y3 : Int) (y4 : Int) (y5 : Nat) (y6 : List V) : Option V := bif decide (y4 < y3) then must (inB y4 y1) (must (decide
 (y4.toNat * 1 < y2.length)) (asSl y2[y4.toNat * 1]? fun x1 x2 => must (decide (x2.length = x1 * 1)) (must (true && (y5 + x1).ble 140737488355328 && ((y5 + x1) * 1).ble 140737488355328) (O.L 0 183 0
 [true, true, false, true] [] m [(3, V.ref 0), (13, V.sl y1 y2), (14, V.int .i64 y3), (15, V.int .i64 (IntKind.i64.wrap (y4 + 1)))] [Ob.row 5 (y5 + x1) (y6 ++ x2) false])))) else must (true && (y5 +
 1).ble 140737488355328 && ((y5 + 1) * 1).ble 140737488355328) (O.L 0 183 2 [true, true, true, true, true, false] [] k [(3, V.ref 0), (6, V.int .u64 (IntKind.u64.wrap (IntKind.u64.wrap (↑y5 : Int) *
 8)))] [Ob.row 5 (y5 + 1) (y6 ++ [V.int .u8 128]) false])
theorem e183l1 (k m q0 q1 : Nat) (y1 : Nat) (y2 : List V) (y3 : Int) (y4 : Int) (y5 : Nat) (y6 : List V) : runL C k 183 0 [true, true, false, true] [] (m + 1) [(3, V.ref 0), (13, V.sl y1 y2), (14,
 V.int .i64 y3), (15, V.int .i64 y4)] [Ob.row 5 y5 y6 false] = T183l1 (orc C k) k m q0 q1 y1 y2 y3 y4 y5 y6 := by kernel_rfl
theorem E183l1 (y1 : Nat) (y2 : List V) (y3 : Int) (y4 : Int) (y5 : Nat) (y6 : List V) {r : V} (h : T183l1 (orcE C) 0 0 0 0 y1 y2 y3 y4 y5 y6 = some r) : loopE C 183 0 [true, true, false, true] [] [(3,
 V.ref 0), (13, V.sl y1 y2), (14, V.int .i64 y3), (15, V.int .i64 y4)] [Ob.row 5 y5 y6 false] = some r := ofL (j := 0) (F := fun s => T183l1 (orc C s.k) s.k s.m 0 0 y1 y2 y3 y4 y5 y6) (fs0 fun k m =>
 e183l1 k m 0 0 y1 y2 y3 y4 y5 y6) (by
  unfold T183l1
  repeat' first | with_reducible exact cC | with_reducible refine cM ?_ | with_reducible refine cF ?_ ?_ | with_reducible refine cL fun _ _ => ?_ | exact cD0 gK | exact cD0 gM) h

noncomputable def T251l1 (O : Orc) (k m q0 q1 : Nat) (y1 : Nat) (y2 : List V) (y3 : Nat) (y4 : List V) : Option V := bif (↑y3 : Int).tmod 64 != 56 then must (true && (y3 + 1).ble 140737488355328 &&
 ((y3 + 1) * 1).ble 140737488355328) (O.L 0 251 0 [true, true, false] [] m [(0, V.sl y1 y2), (3, V.ref 0)] [Ob.row 5 (y3 + 1) (y4 ++ [V.int .u8 0]) false]) else O.L 0 251 2 [true, true, true, true,
 false, true] [] k [(3, V.ref 0), (4, V.int .i64 (IntKind.i64.wrap ((↑y1 : Int) * 8))), (5, V.int .i64 7)] [Ob.row 5 y3 y4 false]
theorem e251l1 (k m q0 q1 : Nat) (y1 : Nat) (y2 : List V) (y3 : Nat) (y4 : List V) : runL C k 251 0 [true, true, false] [] (m + 1) [(0, V.sl y1 y2), (3, V.ref 0)] [Ob.row 5 y3 y4 false] = T251l1 (orc C
 k) k m q0 q1 y1 y2 y3 y4 := by kernel_rfl
theorem E251l1 (y1 : Nat) (y2 : List V) (y3 : Nat) (y4 : List V) {r : V} (h : T251l1 (orcE C) 0 0 0 0 y1 y2 y3 y4 = some r) : loopE C 251 0 [true, true, false] [] [(0, V.sl y1 y2), (3, V.ref 0)]
 [Ob.row 5 y3 y4 false] = some r := ofL (j := 0) (F := fun s => T251l1 (orc C s.k) s.k s.m 0 0 y1 y2 y3 y4) (fs0 fun k m => e251l1 k m 0 0 y1 y2 y3 y4) (by
  unfold T251l1
  repeat' first | with_reducible exact cC | with_reducible refine cM ?_ | with_reducible refine cF ?_ ?_ | exact cD0 gK | exact cD0 gM) h

noncomputable def T187l2 (O : Orc) (k m q0 q1 : Nat) (y1 : Nat) (y2 : List V) (y3 : Int) (y4 : Int) (y5 : List V) (y6 : List V) (y7 : List V) : Option V := bif decide (y4 < 16) then must (decide (0 ≤
 IntKind.i64.wrap (IntKind.i64.wrap (y3 + IntKind.i64.wrap (4 * y4)) + 4)) && decide (IntKind.i64.wrap (IntKind.i64.wrap (y3 + IntKind.i64.wrap (4 * y4)) + 4) ≤ (↑y1 : Int))) (must (decide (0 ≤
 IntKind.i64.wrap (y3 + IntKind.i64.wrap (4 * y4))) && decide (IntKind.i64.wrap (y3 + IntKind.i64.wrap (4 * y4)) ≤ (↑(IntKind.i64.wrap (IntKind.i64.wrap (y3 + IntKind.i64.wrap (4 * y4)) + 4)).toNat :
 Int))) (need (O.R 0 230 [V.sl ((IntKind.i64.wrap (IntKind.i64.wrap (y3 + IntKind.i64.wrap (4 * y4)) + 4)).toNat - (IntKind.i64.wrap (y3 + IntKind.i64.wrap (4 * y4))).toNat) (List.take
 (((IntKind.i64.wrap (IntKind.i64.wrap (y3 + IntKind.i64.wrap (4 * y4)) + 4)).toNat - (IntKind.i64.wrap (y3 + IntKind.i64.wrap (4 * y4))).toNat) * 1) (List.drop ((IntKind.i64.wrap (y3 +
 IntKind.i64.wrap (4 * y4))).toNat * 1) y2))]) fun x1 => asTup (some x1) fun x2 => PI.asInt .i64 x2[0]? fun x3 => must (inB y4 64) (must ((V.int .i64 x3).solid && true && (0 + y4.toNat * 1 + 1).ble
 y7.length && flatB C 280 [V.int .i64 x3]) (O.L 0 187 2 [true, true, true, true, false, true, false, true, false, false, true, false, true] [q0] m [(3, V.ptr 0 0), (4, V.ptr 1 0), (5, V.sl y1 y2), (6,
 V.int .i64 y3), (7, V.ptr 2 0), (8, V.int .i64 (IntKind.i64.wrap (y4 + 1)))] [Ob.box 280 y5 false, Ob.box 282 y6 false, Ob.box 280 (splice y7 (0 + y4.toNat * 1) [V.int .i64 x3]) false])))) else O.L 0
 187 4 [true, true, true, true, false, true, false, true, false, false, true, true, false, true] [q0] k [(3, V.ptr 0 0), (4, V.ptr 1 0), (5, V.sl y1 y2), (6, V.int .i64 y3), (7, V.ptr 2 0), (9, V.int
 .i64 16)] [Ob.box 280 y5 false, Ob.box 282 y6 false, Ob.box 280 y7 false]
theorem e187l2 (k m q0 q1 : Nat) (y1 : Nat) (y2 : List V) (y3 : Int) (y4 : Int) (y5 : List V) (y6 : List V) (y7 : List V) : runL C k 187 2 [true, true, true, true, false, true, false, true, false,
 false, true, false, true] [q0] (m + 1) [(3, V.ptr 0 0), (4, V.ptr 1 0), (5, V.sl y1 y2), (6, V.int .i64 y3), (7, V.ptr 2 0), (8, V.int .i64 y4)] [Ob.box 280 y5 false, Ob.box 282 y6 false, Ob.box 280
 y7 false] = T187l2 (orc C k) k m q0 q1 y1 y2 y3 y4 y5 y6 y7 := by kernel_rfl
theorem E187l2 (y1 : Nat) (y2 : List V) (y3 : Int) (y4 : Int) (y5 : List V) (y6 : List V) (y7 : List V) {r : V} (h : T187l2 (orcE C) 0 0 0 0 y1 y2 y3 y4 y5 y6 y7 = some r) : loopE C 187 2 [true, true,
 true, true, false, true, false, true, false, false, true, false, true] [0] [(3, V.ptr 0 0), (4, V.ptr 1 0), (5, V.sl y1 y2), (6, V.int .i64 y3), (7, V.ptr 2 0), (8, V.int .i64 y4)] [Ob.box 280 y5
 false, Ob.box 282 y6 false, Ob.box 280 y7 false] = some r := ofL (j := 0) (F := fun s => T187l2 (orc C s.k) s.k s.m (s.fs.getD 0 0) 0 y1 y2 y3 y4 y5 y6 y7) (fs1 fun k m q0 => e187l2 k m q0 0 y1 y2 y3
 y4 y5 y6 y7) (by
  unfold T187l2
  repeat' first | with_reducible exact cC | with_reducible refine cN cR fun _ => ?_ | with_reducible refine cT fun _ => ?_ | with_reducible refine cI fun _ => ?_ | with_reducible refine cM ?_ | with_reducible refine cF ?_ ?_ | with_reducible refine cN cC fun _ => ?_ | with_reducible exact cR | exact cD1 gK (gF (i := 0) (by decide)) | exact cD1 gM (gF (i := 0) (by decide))) h

noncomputable def T187l3 (O : Orc) (k m q0 q1 : Nat) (y1 : Int) (y2 : List V) (y3 : Nat) (y4 : List V) : Option V := bif decide (y1 < 8) then O.L 0 187 12 [true, true, true, true, true, true, false,
 true, false, true, false, false, true] [m] k [(4, V.ptr 0 0), (17, V.ref 1), (18, V.int .i64 y1), (19, V.int .i64 3)] [Ob.box 282 y2 false, Ob.row 5 y3 y4 false] else some (V.tup [V.sl y3 y4])
theorem e187l3 (k m q0 q1 : Nat) (y1 : Int) (y2 : List V) (y3 : Nat) (y4 : List V) : runL C k 187 10 [true, true, true, true, true, true, false, true] [] (m + 1) [(4, V.ptr 0 0), (17, V.ref 1), (18,
 V.int .i64 y1)] [Ob.box 282 y2 false, Ob.row 5 y3 y4 false] = T187l3 (orc C k) k m q0 q1 y1 y2 y3 y4 := by kernel_rfl
theorem E187l3 (y1 : Int) (y2 : List V) (y3 : Nat) (y4 : List V) {r : V} (h : T187l3 (orcE C) 0 0 0 0 y1 y2 y3 y4 = some r) : loopE C 187 10 [true, true, true, true, true, true, false, true] [] [(4,
 V.ptr 0 0), (17, V.ref 1), (18, V.int .i64 y1)] [Ob.box 282 y2 false, Ob.row 5 y3 y4 false] = some r := ofL (j := 0) (F := fun s => T187l3 (orc C s.k) s.k s.m 0 0 y1 y2 y3 y4) (fs0 fun k m => e187l3 k
 m 0 0 y1 y2 y3 y4) (by
  unfold T187l3
  repeat' first | with_reducible exact cC | with_reducible refine cF ?_ ?_ | exact cD1 gK gM) h

noncomputable def T279 (O : Orc) (k m q0 q1 : Nat) (y1 : Nat) (y2 : List V) (y3 : Int) (y4 : Nat) (y5 : List V) : Option V := need (O.R 0 107 [V.sl y1 y2, V.sl y4 y5]) fun x1 => asTup (some x1) fun x2
 => PI.asBool x2[0]? fun x3 => some (V.tup [V.bool x3])
theorem e279 (k m q0 q1 : Nat) (y1 : Nat) (y2 : List V) (y3 : Int) (y4 : Nat) (y5 : List V) : runV C (k + 1) 279 [V.agg [V.sl y1 y2, V.int .i64 y3], V.pin [V.sl y4 y5] 0] = T279 (orc C k) k m q0 q1 y1
 y2 y3 y4 y5 := by kernel_rfl
theorem E279 (y1 : Nat) (y2 : List V) (y3 : Int) (y4 : Nat) (y5 : List V) {r : V} (h : T279 (orcE C) 0 0 0 0 y1 y2 y3 y4 y5 = some r) : runE C 279 [V.agg [V.sl y1 y2, V.int .i64 y3], V.pin [V.sl y4 y5]
 0] = some r := ofR (F := fun s => T279 (orc C s.k) s.k s.m 0 0 y1 y2 y3 y4 y5) (fun k => e279 k k 0 0 y1 y2 y3 y4 y5) (by
  unfold T279
  repeat' first | with_reducible exact cC | with_reducible refine cN cR fun _ => ?_ | with_reducible refine cT fun _ => ?_ | with_reducible refine cB fun _ => ?_ | with_reducible refine cN cC fun _ => ?_ | with_reducible exact cR) h

noncomputable def T183l2 (O : Orc) (k m q0 q1 : Nat) (y1 : Int) (y2 : Nat) (y3 : List V) : Option V := bif (↑y2 : Int).tmod 64 != 56 then must (true && (y2 + 1).ble 140737488355328 && ((y2 + 1) *
 1).ble 140737488355328) (O.L 0 183 2 [true, true, true, true, true, false] [] m [(3, V.ref 0), (6, V.int .u64 y1)] [Ob.row 5 (y2 + 1) (y3 ++ [V.int .u8 0]) false]) else O.L 0 183 4 [true, true, true,
 true, true, true, false, true] [] k [(3, V.ref 0), (6, V.int .u64 y1), (7, V.int .i64 56)] [Ob.row 5 y2 y3 false]
theorem e183l2 (k m q0 q1 : Nat) (y1 : Int) (y2 : Nat) (y3 : List V) : runL C k 183 2 [true, true, true, true, true, false] [] (m + 1) [(3, V.ref 0), (6, V.int .u64 y1)] [Ob.row 5 y2 y3 false] = T183l2
 (orc C k) k m q0 q1 y1 y2 y3 := by kernel_rfl
theorem E183l2 (y1 : Int) (y2 : Nat) (y3 : List V) {r : V} (h : T183l2 (orcE C) 0 0 0 0 y1 y2 y3 = some r) : loopE C 183 2 [true, true, true, true, true, false] [] [(3, V.ref 0), (6, V.int .u64 y1)]
 [Ob.row 5 y2 y3 false] = some r := ofL (j := 0) (F := fun s => T183l2 (orc C s.k) s.k s.m 0 0 y1 y2 y3) (fs0 fun k m => e183l2 k m 0 0 y1 y2 y3) (by
  unfold T183l2
  repeat' first | with_reducible exact cC | with_reducible refine cM ?_ | with_reducible refine cF ?_ ?_ | exact cD0 gK | exact cD0 gM) h

noncomputable def T251l2 (O : Orc) (k m q0 q1 : Nat) (y1 : Int) (y2 : Int) (y3 : Nat) (y4 : List V) : Option V := bif decide (y2 ≥ 0) then must (decide (0 ≤ IntKind.u64.wrap (IntKind.i64.wrap (8 *
 y2)))) (must (true && (y3 + 1).ble 140737488355328 && ((y3 + 1) * 1).ble 140737488355328) (O.L 0 251 2 [true, true, true, true, false, true] [] m [(3, V.ref 0), (4, V.int .i64 y1), (5, V.int .i64
 (IntKind.i64.wrap (y2 - 1)))] [Ob.row 5 (y3 + 1) (y4 ++ [V.int .u8 (IntKind.u8.wrap (y1.fdiv (2 ^ min (IntKind.u64.wrap (IntKind.i64.wrap (8 * y2))).toNat 64)))]) false])) else some (V.tup [V.sl y3
 y4])
theorem e251l2 (k m q0 q1 : Nat) (y1 : Int) (y2 : Int) (y3 : Nat) (y4 : List V) : runL C k 251 2 [true, true, true, true, false, true] [] (m + 1) [(3, V.ref 0), (4, V.int .i64 y1), (5, V.int .i64 y2)]
 [Ob.row 5 y3 y4 false] = T251l2 (orc C k) k m q0 q1 y1 y2 y3 y4 := by kernel_rfl
theorem E251l2 (y1 : Int) (y2 : Int) (y3 : Nat) (y4 : List V) {r : V} (h : T251l2 (orcE C) 0 0 0 0 y1 y2 y3 y4 = some r) : loopE C 251 2 [true, true, true, true, false, true] [] [(3, V.ref 0), (4,
 V.int .i64 y1), (5, V.int .i64 y2)] [Ob.row 5 y3 y4 false] = some r := ofL (j := 0) (F := fun s => T251l2 (orc C s.k) s.k s.m 0 0 y1 y2 y3 y4) (fs0 fun k m => e251l2 k m 0 0 y1 y2 y3 y4) (by
  unfold T251l2
  repeat' first | with_reducible exact cC | with_reducible refine cM ?_ | with_reducible refine cF ?_ ?_ | exact cD0 gM) h

noncomputable def T230 (O : Orc) (k m q0 q1 : Nat) (y1 : Nat) (y2 : List V) : Option V := O.L 0 230 0 [true, true, false, true] [] k [(0, V.sl y1 y2), (3, V.int .i64 0), (4, V.int .i64 0)] []
theorem e230 (k m q0 q1 : Nat) (y1 : Nat) (y2 : List V) : runV C (k + 1) 230 [V.sl y1 y2] = T230 (orc C k) k m q0 q1 y1 y2 := by kernel_rfl
theorem E230 (y1 : Nat) (y2 : List V) {r : V} (h : T230 (orcE C) 0 0 0 0 y1 y2 = some r) : runE C 230 [V.sl y1 y2] = some r := ofR (F := fun s => T230 (orc C s.k) s.k s.m 0 0 y1 y2) (fun k => e230 k k
 0 0 y1 y2) (by
  unfold T230
  repeat' first | with_reducible exact cC | exact cD0 gK) h

noncomputable def T187l4 (O : Orc) (k m q0 q1 : Nat) (y1 : Nat) (y2 : List V) (y3 : Int) (y4 : Int) (y5 : List V) (y6 : List V) (y7 : List V) : Option V := bif decide (y4 < 64) then must (inB
 (IntKind.i64.wrap (y4 - 15)) 64) (PI.asInt .i64 y7[0 + (IntKind.i64.wrap (y4 - 15)).toNat * 1]? fun x1 => must (inB (IntKind.i64.wrap (y4 - 2)) 64) (PI.asInt .i64 y7[0 + (IntKind.i64.wrap (y4 -
 2)).toNat * 1]? fun x2 => need (O.R 0 252 [V.int .i64 x1, V.int .u64 7]) fun x3 => asTup (some x3) fun x4 => PI.asInt .i64 x4[0]? fun x5 => need (O.R 0 252 [V.int .i64 x1, V.int .u64 18]) fun x6 =>
 asTup (some x6) fun x7 => PI.asInt .i64 x7[0]? fun x8 => need (O.R 0 252 [V.int .i64 x2, V.int .u64 17]) fun x9 => asTup (some x9) fun x10 => PI.asInt .i64 x10[0]? fun x11 => need (O.R 0 252 [V.int
 .i64 x2, V.int .u64 19]) fun x12 => asTup (some x12) fun x13 => PI.asInt .i64 x13[0]? fun x14 => must (inB (IntKind.i64.wrap (y4 - 7)) 64) (PI.asInt .i64 y7[0 + (IntKind.i64.wrap (y4 - 7)).toNat * 1]?
 fun x15 => must (inB (IntKind.i64.wrap (y4 - 16)) 64) (PI.asInt .i64 y7[0 + (IntKind.i64.wrap (y4 - 16)).toNat * 1]? fun x16 => must (inB y4 64) (must ((V.int .i64 ((IntKind.i64.wrap (IntKind.i64.wrap
 (IntKind.i64.wrap (PI.bits IntKind.i64 (fun x1 x2 => x1 ^^^ x2) (PI.bits IntKind.i64 (fun x1 x2 => x1 ^^^ x2) x11 x14) (x2.fdiv 1024) + x15) + PI.bits IntKind.i64 (fun x1 x2 => x1 ^^^ x2) (PI.bits
 IntKind.i64 (fun x1 x2 => x1 ^^^ x2) x5 x8) (x1.fdiv 8)) + x16)).tmod 4294967296)).solid && true && (0 + y4.toNat * 1 + 1).ble y7.length && flatB C 280 [V.int .i64 ((IntKind.i64.wrap (IntKind.i64.wrap
 (IntKind.i64.wrap (PI.bits IntKind.i64 (fun x1 x2 => x1 ^^^ x2) (PI.bits IntKind.i64 (fun x1 x2 => x1 ^^^ x2) x11 x14) (x2.fdiv 1024) + x15) + PI.bits IntKind.i64 (fun x1 x2 => x1 ^^^ x2) (PI.bits
 IntKind.i64 (fun x1 x2 => x1 ^^^ x2) x5 x8) (x1.fdiv 8)) + x16)).tmod 4294967296)]) (O.L 0 187 4 [true, true, true, true, false, true, false, true, false, false, true, true, false, true] [q0] m [(3,
 V.ptr 0 0), (4, V.ptr 1 0), (5, V.sl y1 y2), (6, V.int .i64 y3), (7, V.ptr 2 0), (9, V.int .i64 (IntKind.i64.wrap (y4 + 1)))] [Ob.box 280 y5 false, Ob.box 282 y6 false, Ob.box 280 (splice y7 (0 +
 y4.toNat * 1) [V.int .i64 ((IntKind.i64.wrap (IntKind.i64.wrap (IntKind.i64.wrap (PI.bits IntKind.i64 (fun x1 x2 => x1 ^^^ x2) (PI.bits IntKind.i64 (fun x1 x2 => x1 ^^^ x2) x11 x14) (x2.fdiv 1024) +
 x15) + PI.bits IntKind.i64 (fun x1 x2 => x1 ^^^ x2) (PI.bits IntKind.i64 (fun x1 x2 => x1 ^^^ x2) x5 x8) (x1.fdiv 8)) + x16)).tmod 4294967296)]) false])))))) else PI.asInt .i64 y6[0]? fun x17 =>
 PI.asInt .i64 y6[1]? fun x18 => PI.asInt .i64 y6[2]? fun x19 => PI.asInt .i64 y6[3]? fun x20 => PI.asInt .i64 y6[4]? fun x21 => PI.asInt .i64 y6[5]? fun x22 => PI.asInt .i64 y6[6]? fun x23 => PI.asInt
 .i64 y6[7]? fun x24 => O.L 0 187 6 [true, true, true, true, false, true, false, true, false, false, true, true, true, true, false, true] [q0] k [(3, V.ptr 0 0), (4, V.ptr 1 0), (5, V.sl y1 y2), (6,
 V.int .i64 y3), (7, V.ptr 2 0), (14, V.ptr 3 0), (15, V.int .i64 0)] [Ob.box 280 y5 false, Ob.box 282 y6 false, Ob.box 280 y7 false, Ob.box 282 [V.int .i64 x17, V.int .i64 x18, V.int .i64 x19, V.int
 .i64 x20, V.int .i64 x21, V.int .i64 x22, V.int .i64 x23, V.int .i64 x24] false]
theorem e187l4 (k m q0 q1 : Nat) (y1 : Nat) (y2 : List V) (y3 : Int) (y4 : Int) (y5 : List V) (y6 : List V) (y7 : List V) : runL C k 187 4 [true, true, true, true, false, true, false, true, false,
 false, true, true, false, true] [q0] (m + 1) [(3, V.ptr 0 0), (4, V.ptr 1 0), (5, V.sl y1 y2), (6, V.int .i64 y3), (7, V.ptr 2 0), (9, V.int .i64 y4)] [Ob.box 280 y5 false, Ob.box 282 y6 false, Ob.box
 280 y7 false] = T187l4 (orc C k) k m q0 q1 y1 y2 y3 y4 y5 y6 y7 := by kernel_rfl
theorem E187l4 (y1 : Nat) (y2 : List V) (y3 : Int) (y4 : Int) (y5 : List V) (y6 : List V) (y7 : List V) {r : V} (h : T187l4 (orcE C) 0 0 0 0 y1 y2 y3 y4 y5 y6 y7 = some r) : loopE C 187 4 [true, true,
 true, true, false, true, false, true, false, false, true, true, false, true] [0] [(3, V.ptr 0 0), (4, V.ptr 1 0), (5, V.sl y1 y2), (6, V.int .i64 y3), (7, V.ptr 2 0), (9, V.int .i64 y4)] [Ob.box 280
 y5 false, Ob.box 282 y6 false, Ob.box 280 y7 false] = some r := ofL (j := 0) (F := fun s => T187l4 (orc C s.k) s.k s.m (s.fs.getD 0 0) 0 y1 y2 y3 y4 y5 y6 y7) (fs1 fun k m q0 => e187l4 k m q0 0 y1 y2
 y3 y4 y5 y6 y7) (by
  unfold T187l4
  repeat' first | with_reducible exact cC | with_reducible refine cN cR fun _ => ?_ | with_reducible refine cT fun _ => ?_ | with_reducible refine cI fun _ => ?_ | with_reducible refine cM ?_ | with_reducible refine cF ?_ ?_ | with_reducible refine cN cC fun _ => ?_ | with_reducible exact cR | exact cD1 gK (gF (i := 0) (by decide)) | exact cD1 gM (gF (i := 0) (by decide))) h

noncomputable def T187l5 (O : Orc) (k m q0 q1 : Nat) (y1 : Int) (y2 : Int) (y3 : List V) (y4 : Nat) (y5 : List V) : Option V := bif decide (y2 ≥ 0) then must (inB y1 8) (PI.asInt .i64 y3[0 + y1.toNat *
 1]? fun x1 => must (decide (0 ≤ IntKind.u64.wrap (IntKind.i64.wrap (8 * y2)))) (must (true && (y4 + 1).ble 140737488355328 && ((y4 + 1) * 1).ble 140737488355328) (O.L 0 187 12 [true, true, true, true,
 true, true, false, true, false, true, false, false, true] [q0] m [(4, V.ptr 0 0), (17, V.ref 1), (18, V.int .i64 y1), (19, V.int .i64 (IntKind.i64.wrap (y2 - 1)))] [Ob.box 282 y3 false, Ob.row 5 (y4 +
 1) (y5 ++ [V.int .u8 (IntKind.u8.wrap (x1.fdiv (2 ^ min (IntKind.u64.wrap (IntKind.i64.wrap (8 * y2))).toNat 64)))]) false]))) else O.L 0 187 10 [true, true, true, true, true, true, false, true] [] q0
 [(4, V.ptr 0 0), (17, V.ref 1), (18, V.int .i64 (IntKind.i64.wrap (y1 + 1)))] [Ob.box 282 y3 false, Ob.row 5 y4 y5 false]
theorem e187l5 (k m q0 q1 : Nat) (y1 : Int) (y2 : Int) (y3 : List V) (y4 : Nat) (y5 : List V) : runL C k 187 12 [true, true, true, true, true, true, false, true, false, true, false, false, true] [q0]
 (m + 1) [(4, V.ptr 0 0), (17, V.ref 1), (18, V.int .i64 y1), (19, V.int .i64 y2)] [Ob.box 282 y3 false, Ob.row 5 y4 y5 false] = T187l5 (orc C k) k m q0 q1 y1 y2 y3 y4 y5 := by kernel_rfl
theorem E187l5 (y1 : Int) (y2 : Int) (y3 : List V) (y4 : Nat) (y5 : List V) {r : V} (h : T187l5 (orcE C) 0 0 0 0 y1 y2 y3 y4 y5 = some r) : loopE C 187 12 [true, true, true, true, true, true, false,
 true, false, true, false, false, true] [0] [(4, V.ptr 0 0), (17, V.ref 1), (18, V.int .i64 y1), (19, V.int .i64 y2)] [Ob.box 282 y3 false, Ob.row 5 y4 y5 false] = some r := ofL (j := 0) (F := fun s =>
 T187l5 (orc C s.k) s.k s.m (s.fs.getD 0 0) 0 y1 y2 y3 y4 y5) (fs1 fun k m q0 => e187l5 k m q0 0 y1 y2 y3 y4 y5) (by
  unfold T187l5
  repeat' first | with_reducible exact cC | with_reducible refine cI fun _ => ?_ | with_reducible refine cM ?_ | with_reducible refine cF ?_ ?_ | exact cD0 (gF (i := 0) (by decide)) | exact cD1 gM (gF (i := 0) (by decide))) h

noncomputable def T183l3 (O : Orc) (k m q0 q1 : Nat) (y1 : Int) (y2 : Int) (y3 : Nat) (y4 : List V) : Option V := bif decide (y2 ≥ 0) then must (decide (0 ≤ y2)) (must (true && (y3 + 1).ble
 140737488355328 && ((y3 + 1) * 1).ble 140737488355328) (O.L 0 183 4 [true, true, true, true, true, true, false, true] [] m [(3, V.ref 0), (6, V.int .u64 y1), (7, V.int .i64 (IntKind.i64.wrap (y2 -
 8)))] [Ob.row 5 (y3 + 1) (y4 ++ [V.int .u8 (IntKind.u8.wrap (y1.fdiv (2 ^ min y2.toNat 64)))]) false])) else O.L 0 183 6 [true, true, true, true, true, true, true, true, false] [] k [(3, V.ref 0), (8,
 V.ptr 1 0)] [Ob.row 5 y3 y4 false, Ob.box 278 [V.int .u32 1779033703, V.int .u32 3144134277, V.int .u32 1013904242, V.int .u32 2773480762, V.int .u32 1359893119, V.int .u32 2600822924, V.int .u32
 528734635, V.int .u32 1541459225] false]
theorem e183l3 (k m q0 q1 : Nat) (y1 : Int) (y2 : Int) (y3 : Nat) (y4 : List V) : runL C k 183 4 [true, true, true, true, true, true, false, true] [] (m + 1) [(3, V.ref 0), (6, V.int .u64 y1), (7,
 V.int .i64 y2)] [Ob.row 5 y3 y4 false] = T183l3 (orc C k) k m q0 q1 y1 y2 y3 y4 := by kernel_rfl
theorem E183l3 (y1 : Int) (y2 : Int) (y3 : Nat) (y4 : List V) {r : V} (h : T183l3 (orcE C) 0 0 0 0 y1 y2 y3 y4 = some r) : loopE C 183 4 [true, true, true, true, true, true, false, true] [] [(3, V.ref
 0), (6, V.int .u64 y1), (7, V.int .i64 y2)] [Ob.row 5 y3 y4 false] = some r := ofL (j := 0) (F := fun s => T183l3 (orc C s.k) s.k s.m 0 0 y1 y2 y3 y4) (fs0 fun k m => e183l3 k m 0 0 y1 y2 y3 y4) (by
  unfold T183l3
  repeat' first | with_reducible exact cC | with_reducible refine cM ?_ | with_reducible refine cF ?_ ?_ | exact cD0 gK | exact cD0 gM) h

noncomputable def T230l1 (O : Orc) (k m q0 q1 : Nat) (y1 : Nat) (y2 : List V) (y3 : Int) (y4 : Int) : Option V := bif decide (y4 < (↑y1 : Int)) then must (inB y4 y1) (PI.asInt .u8 y2[y4.toNat * 1]? fun
 x1 => O.L 0 230 0 [true, true, false, true] [] m [(0, V.sl y1 y2), (3, V.int .i64 (IntKind.i64.wrap (IntKind.i64.wrap (y3 * 256) + IntKind.i64.wrap x1))), (4, V.int .i64 (IntKind.i64.wrap (y4 + 1)))]
 []) else some (V.tup [V.int .i64 y3])
theorem e230l1 (k m q0 q1 : Nat) (y1 : Nat) (y2 : List V) (y3 : Int) (y4 : Int) : runL C k 230 0 [true, true, false, true] [] (m + 1) [(0, V.sl y1 y2), (3, V.int .i64 y3), (4, V.int .i64 y4)] [] =
 T230l1 (orc C k) k m q0 q1 y1 y2 y3 y4 := by kernel_rfl
theorem E230l1 (y1 : Nat) (y2 : List V) (y3 : Int) (y4 : Int) {r : V} (h : T230l1 (orcE C) 0 0 0 0 y1 y2 y3 y4 = some r) : loopE C 230 0 [true, true, false, true] [] [(0, V.sl y1 y2), (3, V.int .i64
 y3), (4, V.int .i64 y4)] [] = some r := ofL (j := 0) (F := fun s => T230l1 (orc C s.k) s.k s.m 0 0 y1 y2 y3 y4) (fs0 fun k m => e230l1 k m 0 0 y1 y2 y3 y4) (by
  unfold T230l1
  repeat' first | with_reducible exact cC | with_reducible refine cI fun _ => ?_ | with_reducible refine cM ?_ | with_reducible refine cF ?_ ?_ | exact cD0 gM) h

noncomputable def T252 (O : Orc) (k m q0 q1 : Nat) (y1 : Int) (y2 : Int) : Option V := must (decide (0 ≤ y2)) (must (decide (0 ≤ IntKind.u64.wrap (32 - y2))) (some (V.tup [V.int .i64 ((PI.bits
 IntKind.i64 (fun x1 x2 => x1 ||| x2) (y1.fdiv (2 ^ min y2.toNat 64)) (IntKind.i64.wrap (y1 * 2 ^ min (IntKind.u64.wrap (32 - y2)).toNat 64))).tmod 4294967296)])))
theorem e252 (k m q0 q1 : Nat) (y1 : Int) (y2 : Int) : runV C (k + 1) 252 [V.int .i64 y1, V.int .u64 y2] = T252 (orc C k) k m q0 q1 y1 y2 := by kernel_rfl
theorem E252 (y1 : Int) (y2 : Int) {r : V} (h : T252 (orcE C) 0 0 0 0 y1 y2 = some r) : runE C 252 [V.int .i64 y1, V.int .u64 y2] = some r := ofR (F := fun s => T252 (orc C s.k) s.k s.m 0 0 y1 y2) (fun
 k => e252 k k 0 0 y1 y2) (by
  unfold T252
  repeat' first | with_reducible exact cC | with_reducible refine cM ?_) h

noncomputable def T187l6 (O : Orc) (k m q0 q1 : Nat) (y1 : Nat) (y2 : List V) (y3 : Int) (y4 : Int) (y5 : List V) (y6 : List V) (y7 : List V) (y8 : List V) : Option V := bif decide (y4 < 64) then
 PI.asInt .i64 y8[0]? fun x1 => PI.asInt .i64 y8[1]? fun x2 => PI.asInt .i64 y8[2]? fun x3 => PI.asInt .i64 y8[3]? fun x4 => PI.asInt .i64 y8[4]? fun x5 => PI.asInt .i64 y8[5]? fun x6 => PI.asInt .i64
 y8[6]? fun x7 => PI.asInt .i64 y8[7]? fun x8 => must (inB y4 64) (PI.asInt .i64 y7[0 + y4.toNat * 1]? fun x9 => must (inB y4 64) (PI.asInt .i64 y5[0 + y4.toNat * 1]? fun x10 => need (O.R 0 253 [V.agg
 [V.int .i64 x1, V.int .i64 x2, V.int .i64 x3, V.int .i64 x4, V.int .i64 x5, V.int .i64 x6, V.int .i64 x7, V.int .i64 x8], V.int .i64 x9, V.int .i64 x10]) fun x11 => asTup (some x11) fun x12 =>
 PI.asInt .i64 x12[0]? fun x13 => PI.asInt .i64 x12[1]? fun x14 => PI.asInt .i64 x12[2]? fun x15 => PI.asInt .i64 x12[3]? fun x16 => PI.asInt .i64 x12[4]? fun x17 => PI.asInt .i64 x12[5]? fun x18 =>
 PI.asInt .i64 x12[6]? fun x19 => PI.asInt .i64 x12[7]? fun x20 => must ([V.int .i64 x13, V.int .i64 x14, V.int .i64 x15, V.int .i64 x16, V.int .i64 x17, V.int .i64 x18, V.int .i64 x19, V.int .i64
 x20].length.beq 8 && true && (0 + [V.int .i64 x13, V.int .i64 x14, V.int .i64 x15, V.int .i64 x16, V.int .i64 x17, V.int .i64 x18, V.int .i64 x19, V.int .i64 x20].length).ble y8.length && flatB C 282
 [V.int .i64 x13, V.int .i64 x14, V.int .i64 x15, V.int .i64 x16, V.int .i64 x17, V.int .i64 x18, V.int .i64 x19, V.int .i64 x20]) (O.L 0 187 6 [true, true, true, true, false, true, false, true, false,
 false, true, true, true, true, false, true] [q0] m [(3, V.ptr 0 0), (4, V.ptr 1 0), (5, V.sl y1 y2), (6, V.int .i64 y3), (7, V.ptr 2 0), (14, V.ptr 3 0), (15, V.int .i64 (IntKind.i64.wrap (y4 + 1)))]
 [Ob.box 280 y5 false, Ob.box 282 y6 false, Ob.box 280 y7 false, Ob.box 282 (splice y8 0 [V.int .i64 x13, V.int .i64 x14, V.int .i64 x15, V.int .i64 x16, V.int .i64 x17, V.int .i64 x18, V.int .i64 x19,
 V.int .i64 x20]) false]))) else O.L 0 187 8 [true, true, true, true, false, true, false, true, false, false, true, true, true, true, true, true] [q0] k [(3, V.ptr 0 0), (4, V.ptr 1 0), (5, V.sl y1
 y2), (6, V.int .i64 y3), (14, V.ptr 2 0), (16, V.int .i64 0)] [Ob.box 280 y5 false, Ob.box 282 y6 false, Ob.box 282 y8 false]
theorem e187l6 (k m q0 q1 : Nat) (y1 : Nat) (y2 : List V) (y3 : Int) (y4 : Int) (y5 : List V) (y6 : List V) (y7 : List V) (y8 : List V) : runL C k 187 6 [true, true, true, true, false, true, false,
 true, false, false, true, true, true, true, false, true] [q0] (m + 1) [(3, V.ptr 0 0), (4, V.ptr 1 0), (5, V.sl y1 y2), (6, V.int .i64 y3), (7, V.ptr 2 0), (14, V.ptr 3 0), (15, V.int .i64 y4)]
 [Ob.box 280 y5 false, Ob.box 282 y6 false, Ob.box 280 y7 false, Ob.box 282 y8 false] = T187l6 (orc C k) k m q0 q1 y1 y2 y3 y4 y5 y6 y7 y8 := by kernel_rfl
theorem E187l6 (y1 : Nat) (y2 : List V) (y3 : Int) (y4 : Int) (y5 : List V) (y6 : List V) (y7 : List V) (y8 : List V) {r : V} (h : T187l6 (orcE C) 0 0 0 0 y1 y2 y3 y4 y5 y6 y7 y8 = some r) : loopE C
 187 6 [true, true, true, true, false, true, false, true, false, false, true, true, true, true, false, true] [0] [(3, V.ptr 0 0), (4, V.ptr 1 0), (5, V.sl y1 y2), (6, V.int .i64 y3), (7, V.ptr 2 0),
 (14, V.ptr 3 0), (15, V.int .i64 y4)] [Ob.box 280 y5 false, Ob.box 282 y6 false, Ob.box 280 y7 false, Ob.box 282 y8 false] = some r := ofL (j := 0) (F := fun s => T187l6 (orc C s.k) s.k s.m (s.fs.getD
 0 0) 0 y1 y2 y3 y4 y5 y6 y7 y8) (fs1 fun k m q0 => e187l6 k m q0 0 y1 y2 y3 y4 y5 y6 y7 y8) (by
  unfold T187l6
  repeat' first | with_reducible exact cC | with_reducible refine cN cR fun _ => ?_ | with_reducible refine cT fun _ => ?_ | with_reducible refine cI fun _ => ?_ | with_reducible refine cM ?_ | with_reducible refine cF ?_ ?_ | with_reducible refine cN cC fun _ => ?_ | with_reducible exact cR | exact cD1 gK (gF (i := 0) (by decide)) | exact cD1 gM (gF (i := 0) (by decide))) h

noncomputable def T183l4 (O : Orc) (k m q0 q1 : Nat) (y1 : Nat) (y2 : List V) (y3 : List V) : Option V := bif decide ((↑y1 : Int) > 0) then PI.asInt .u32 y3[0]? fun x1 => PI.asInt .u32 y3[1]? fun x2 =>
 PI.asInt .u32 y3[2]? fun x3 => PI.asInt .u32 y3[3]? fun x4 => PI.asInt .u32 y3[4]? fun x5 => PI.asInt .u32 y3[5]? fun x6 => PI.asInt .u32 y3[6]? fun x7 => PI.asInt .u32 y3[7]? fun x8 => must (true &&
 decide (64 ≤ (↑y1 : Int))) (need (O.R 0 248 [V.agg [V.int .u32 x1, V.int .u32 x2, V.int .u32 x3, V.int .u32 x4, V.int .u32 x5, V.int .u32 x6, V.int .u32 x7, V.int .u32 x8], V.sl 64 (List.take 64
 (List.drop 0 y2))]) fun x9 => asTup (some x9) fun x10 => PI.asInt .u32 x10[0]? fun x11 => PI.asInt .u32 x10[1]? fun x12 => PI.asInt .u32 x10[2]? fun x13 => PI.asInt .u32 x10[3]? fun x14 => PI.asInt
 .u32 x10[4]? fun x15 => PI.asInt .u32 x10[5]? fun x16 => PI.asInt .u32 x10[6]? fun x17 => PI.asInt .u32 x10[7]? fun x18 => must ([V.int .u32 x11, V.int .u32 x12, V.int .u32 x13, V.int .u32 x14, V.int
 .u32 x15, V.int .u32 x16, V.int .u32 x17, V.int .u32 x18].length.beq 8 && true && (0 + [V.int .u32 x11, V.int .u32 x12, V.int .u32 x13, V.int .u32 x14, V.int .u32 x15, V.int .u32 x16, V.int .u32 x17,
 V.int .u32 x18].length).ble y3.length && flatB C 278 [V.int .u32 x11, V.int .u32 x12, V.int .u32 x13, V.int .u32 x14, V.int .u32 x15, V.int .u32 x16, V.int .u32 x17, V.int .u32 x18]) (must (true &&
 decide (64 ≤ (↑y1 : Int))) (O.L 0 183 6 [true, true, true, true, true, true, true, true, false] [] m [(3, V.sl (y1 - 64) (List.take ((y1 - 64) * 1) (List.drop 64 y2))), (8, V.ptr 0 0)] [Ob.box 278
 (splice y3 0 [V.int .u32 x11, V.int .u32 x12, V.int .u32 x13, V.int .u32 x14, V.int .u32 x15, V.int .u32 x16, V.int .u32 x17, V.int .u32 x18]) false]))) else PI.asInt .u32 y3[0]? fun x19 => PI.asInt
 .u32 y3[1]? fun x20 => PI.asInt .u32 y3[2]? fun x21 => PI.asInt .u32 y3[3]? fun x22 => PI.asInt .u32 y3[4]? fun x23 => PI.asInt .u32 y3[5]? fun x24 => PI.asInt .u32 y3[6]? fun x25 => PI.asInt .u32
 y3[7]? fun x26 => O.L 0 183 8 [true, true, true, true, true, true, true, true, true, true, false, true] [] k [(9, V.ref 0), (59, V.agg [V.int .u32 x19, V.int .u32 x20, V.int .u32 x21, V.int .u32 x22,
 V.int .u32 x23, V.int .u32 x24, V.int .u32 x25, V.int .u32 x26]), (60, V.int .i64 0)] [Ob.row 5 0 [] false]
theorem e183l4 (k m q0 q1 : Nat) (y1 : Nat) (y2 : List V) (y3 : List V) : runL C k 183 6 [true, true, true, true, true, true, true, true, false] [] (m + 1) [(3, V.ref 0), (8, V.ptr 1 0)] [Ob.row 5 y1
 y2 false, Ob.box 278 y3 false] = T183l4 (orc C k) k m q0 q1 y1 y2 y3 := by kernel_rfl
theorem E183l4 (y1 : Nat) (y2 : List V) (y3 : List V) {r : V} (h : T183l4 (orcE C) 0 0 0 0 y1 y2 y3 = some r) : loopE C 183 6 [true, true, true, true, true, true, true, true, false] [] [(3, V.ref 0),
 (8, V.ptr 1 0)] [Ob.row 5 y1 y2 false, Ob.box 278 y3 false] = some r := ofL (j := 0) (F := fun s => T183l4 (orc C s.k) s.k s.m 0 0 y1 y2 y3) (fs0 fun k m => e183l4 k m 0 0 y1 y2 y3) (by
  unfold T183l4
  repeat' first | with_reducible exact cC | with_reducible refine cN cR fun _ => ?_ | with_reducible refine cT fun _ => ?_ | with_reducible refine cI fun _ => ?_ | with_reducible refine cM ?_ | with_reducible refine cF ?_ ?_ | with_reducible refine cN cC fun _ => ?_ | with_reducible exact cR | exact cD0 gK | exact cD0 gM) h

noncomputable def T253 (O : Orc) (k m q0 q1 : Nat) (y1 : Int) (y2 : Int) (y3 : Int) (y4 : Int) (y5 : Int) (y6 : Int) (y7 : Int) (y8 : Int) (y9 : Int) (y10 : Int) : Option V := need (O.R 0 252 [V.int
 .i64 y5, V.int .u64 6]) fun x1 => asTup (some x1) fun x2 => PI.asInt .i64 x2[0]? fun x3 => need (O.R 0 252 [V.int .i64 y5, V.int .u64 11]) fun x4 => asTup (some x4) fun x5 => PI.asInt .i64 x5[0]? fun
 x6 => need (O.R 0 252 [V.int .i64 y5, V.int .u64 25]) fun x7 => asTup (some x7) fun x8 => PI.asInt .i64 x8[0]? fun x9 => need (O.R 0 292 [V.int .i64 y5]) fun x10 => asTup (some x10) fun x11 =>
 PI.asInt .i64 x11[0]? fun x12 => need (O.R 0 252 [V.int .i64 y1, V.int .u64 2]) fun x13 => asTup (some x13) fun x14 => PI.asInt .i64 x14[0]? fun x15 => need (O.R 0 252 [V.int .i64 y1, V.int .u64 13])
 fun x16 => asTup (some x16) fun x17 => PI.asInt .i64 x17[0]? fun x18 => need (O.R 0 252 [V.int .i64 y1, V.int .u64 22]) fun x19 => asTup (some x19) fun x20 => PI.asInt .i64 x20[0]? fun x21 => some
 (V.tup [V.int .i64 ((IntKind.i64.wrap ((IntKind.i64.wrap (IntKind.i64.wrap (IntKind.i64.wrap (IntKind.i64.wrap (y8 + PI.bits IntKind.i64 (fun x1 x2 => x1 ^^^ x2) (PI.bits IntKind.i64 (fun x1 x2 => x1
 ^^^ x2) x3 x6) x9) + PI.bits IntKind.i64 (fun x1 x2 => x1 ^^^ x2) (PI.bits IntKind.i64 (fun x1 x2 => x1 &&& x2) y5 y6) (PI.bits IntKind.i64 (fun x1 x2 => x1 &&& x2) x12 y7)) + y10) + y9)).tmod
 4294967296 + (IntKind.i64.wrap (PI.bits IntKind.i64 (fun x1 x2 => x1 ^^^ x2) (PI.bits IntKind.i64 (fun x1 x2 => x1 ^^^ x2) x15 x18) x21 + PI.bits IntKind.i64 (fun x1 x2 => x1 ^^^ x2) (PI.bits
 IntKind.i64 (fun x1 x2 => x1 ^^^ x2) (PI.bits IntKind.i64 (fun x1 x2 => x1 &&& x2) y1 y2) (PI.bits IntKind.i64 (fun x1 x2 => x1 &&& x2) y1 y3)) (PI.bits IntKind.i64 (fun x1 x2 => x1 &&& x2) y2
 y3))).tmod 4294967296)).tmod 4294967296), V.int .i64 y1, V.int .i64 y2, V.int .i64 y3, V.int .i64 ((IntKind.i64.wrap (y4 + (IntKind.i64.wrap (IntKind.i64.wrap (IntKind.i64.wrap (IntKind.i64.wrap (y8 +
 PI.bits IntKind.i64 (fun x1 x2 => x1 ^^^ x2) (PI.bits IntKind.i64 (fun x1 x2 => x1 ^^^ x2) x3 x6) x9) + PI.bits IntKind.i64 (fun x1 x2 => x1 ^^^ x2) (PI.bits IntKind.i64 (fun x1 x2 => x1 &&& x2) y5
 y6) (PI.bits IntKind.i64 (fun x1 x2 => x1 &&& x2) x12 y7)) + y10) + y9)).tmod 4294967296)).tmod 4294967296), V.int .i64 y5, V.int .i64 y6, V.int .i64 y7])
theorem e253 (k m q0 q1 : Nat) (y1 : Int) (y2 : Int) (y3 : Int) (y4 : Int) (y5 : Int) (y6 : Int) (y7 : Int) (y8 : Int) (y9 : Int) (y10 : Int) : runV C (k + 1) 253 [V.agg [V.int .i64 y1, V.int .i64 y2,
 V.int .i64 y3, V.int .i64 y4, V.int .i64 y5, V.int .i64 y6, V.int .i64 y7, V.int .i64 y8], V.int .i64 y9, V.int .i64 y10] = T253 (orc C k) k m q0 q1 y1 y2 y3 y4 y5 y6 y7 y8 y9 y10 := by kernel_rfl
theorem E253 (y1 : Int) (y2 : Int) (y3 : Int) (y4 : Int) (y5 : Int) (y6 : Int) (y7 : Int) (y8 : Int) (y9 : Int) (y10 : Int) {r : V} (h : T253 (orcE C) 0 0 0 0 y1 y2 y3 y4 y5 y6 y7 y8 y9 y10 = some r) :
 runE C 253 [V.agg [V.int .i64 y1, V.int .i64 y2, V.int .i64 y3, V.int .i64 y4, V.int .i64 y5, V.int .i64 y6, V.int .i64 y7, V.int .i64 y8], V.int .i64 y9, V.int .i64 y10] = some r := ofR (F := fun s
 => T253 (orc C s.k) s.k s.m 0 0 y1 y2 y3 y4 y5 y6 y7 y8 y9 y10) (fun k => e253 k k 0 0 y1 y2 y3 y4 y5 y6 y7 y8 y9 y10) (by
  unfold T253
  repeat' first | with_reducible exact cC | with_reducible refine cN cR fun _ => ?_ | with_reducible refine cT fun _ => ?_ | with_reducible refine cI fun _ => ?_ | with_reducible refine cN cC fun _ => ?_ | with_reducible exact cR) h

noncomputable def T187l7 (O : Orc) (k m q0 q1 : Nat) (y1 : Nat) (y2 : List V) (y3 : Int) (y4 : Int) (y5 : List V) (y6 : List V) (y7 : List V) : Option V := bif decide (y4 < 8) then must (inB y4 8)
 (PI.asInt .i64 y6[0 + y4.toNat * 1]? fun x1 => must (inB y4 8) (PI.asInt .i64 y7[0 + y4.toNat * 1]? fun x2 => must (inB y4 8) (must ((V.int .i64 ((IntKind.i64.wrap (x1 + x2)).tmod 4294967296)).solid
 && true && (0 + y4.toNat * 1 + 1).ble y6.length && flatB C 282 [V.int .i64 ((IntKind.i64.wrap (x1 + x2)).tmod 4294967296)]) (O.L 0 187 8 [true, true, true, true, false, true, false, true, false,
 false, true, true, true, true, true, true] [q0] m [(3, V.ptr 0 0), (4, V.ptr 1 0), (5, V.sl y1 y2), (6, V.int .i64 y3), (14, V.ptr 2 0), (16, V.int .i64 (IntKind.i64.wrap (y4 + 1)))] [Ob.box 280 y5
 false, Ob.box 282 (splice y6 (0 + y4.toNat * 1) [V.int .i64 ((IntKind.i64.wrap (x1 + x2)).tmod 4294967296)]) false, Ob.box 282 y7 false])))) else O.L 0 187 0 [true, true, true, true, false, true] []
 q0 [(3, V.ptr 0 0), (4, V.ptr 1 0), (5, V.sl y1 y2), (6, V.int .i64 (IntKind.i64.wrap (y3 + 64)))] [Ob.box 280 y5 false, Ob.box 282 y6 false]
theorem e187l7 (k m q0 q1 : Nat) (y1 : Nat) (y2 : List V) (y3 : Int) (y4 : Int) (y5 : List V) (y6 : List V) (y7 : List V) : runL C k 187 8 [true, true, true, true, false, true, false, true, false,
 false, true, true, true, true, true, true] [q0] (m + 1) [(3, V.ptr 0 0), (4, V.ptr 1 0), (5, V.sl y1 y2), (6, V.int .i64 y3), (14, V.ptr 2 0), (16, V.int .i64 y4)] [Ob.box 280 y5 false, Ob.box 282 y6
 false, Ob.box 282 y7 false] = T187l7 (orc C k) k m q0 q1 y1 y2 y3 y4 y5 y6 y7 := by kernel_rfl
theorem E187l7 (y1 : Nat) (y2 : List V) (y3 : Int) (y4 : Int) (y5 : List V) (y6 : List V) (y7 : List V) {r : V} (h : T187l7 (orcE C) 0 0 0 0 y1 y2 y3 y4 y5 y6 y7 = some r) : loopE C 187 8 [true, true,
 true, true, false, true, false, true, false, false, true, true, true, true, true, true] [0] [(3, V.ptr 0 0), (4, V.ptr 1 0), (5, V.sl y1 y2), (6, V.int .i64 y3), (14, V.ptr 2 0), (16, V.int .i64 y4)]
 [Ob.box 280 y5 false, Ob.box 282 y6 false, Ob.box 282 y7 false] = some r := ofL (j := 0) (F := fun s => T187l7 (orc C s.k) s.k s.m (s.fs.getD 0 0) 0 y1 y2 y3 y4 y5 y6 y7) (fs1 fun k m q0 => e187l7 k m
 q0 0 y1 y2 y3 y4 y5 y6 y7) (by
  unfold T187l7
  repeat' first | with_reducible exact cC | with_reducible refine cI fun _ => ?_ | with_reducible refine cM ?_ | with_reducible refine cF ?_ ?_ | exact cD0 (gF (i := 0) (by decide)) | exact cD1 gM (gF (i := 0) (by decide))) h

noncomputable def T248 (O : Orc) (k m q0 q1 : Nat) (y1 : Int) (y2 : Int) (y3 : Int) (y4 : Int) (y5 : Int) (y6 : Int) (y7 : Int) (y8 : Int) (y9 : Nat) (y10 : List V) : Option V := O.L 0 248 0 [true,
 true, false, true] [] k [(1, V.sl y9 y10), (2, V.ptr 0 0), (4, V.ptr 1 0), (5, V.ptr 2 0), (16, V.int .i64 0)] [Ob.box 278 [V.int .u32 y1, V.int .u32 y2, V.int .u32 y3, V.int .u32 y4, V.int .u32 y5,
 V.int .u32 y6, V.int .u32 y7, V.int .u32 y8] false, Ob.box 278 [V.int .u32 0, V.int .u32 0, V.int .u32 0, V.int .u32 0, V.int .u32 0, V.int .u32 0, V.int .u32 0, V.int .u32 0] false, Ob.box 306 [V.int
 .u32 0, V.int .u32 0, V.int .u32 0, V.int .u32 0, V.int .u32 0, V.int .u32 0, V.int .u32 0, V.int .u32 0, V.int .u32 0, V.int .u32 0, V.int .u32 0, V.int .u32 0, V.int .u32 0, V.int .u32 0, V.int .u32
 0, V.int .u32 0, V.int .u32 0, V.int .u32 0, V.int .u32 0, V.int .u32 0, V.int .u32 0, V.int .u32 0, V.int .u32 0, V.int .u32 0, V.int .u32 0, V.int .u32 0, V.int .u32 0, V.int .u32 0, V.int .u32 0,
 V.int .u32 0, V.int .u32 0, V.int .u32 0, V.int .u32 0, V.int .u32 0, V.int .u32 0, V.int .u32 0, V.int .u32 0, V.int .u32 0, V.int .u32 0, V.int .u32 0, V.int .u32 0, V.int .u32 0, V.int .u32 0,
 V.int .u32 0, V.int .u32 0, V.int .u32 0, V.int .u32 0, V.int .u32 0, V.int .u32 0, V.int .u32 0, V.int .u32 0, V.int .u32 0, V.int .u32 0, V.int .u32 0, V.int .u32 0, V.int .u32 0, V.int .u32 0,
 V.int .u32 0, V.int .u32 0, V.int .u32 0, V.int .u32 0, V.int .u32 0, V.int .u32 0, V.int .u32 0] false]
theorem e248 (k m q0 q1 : Nat) (y1 : Int) (y2 : Int) (y3 : Int) (y4 : Int) (y5 : Int) (y6 : Int) (y7 : Int) (y8 : Int) (y9 : Nat) (y10 : List V) : runV C (k + 1) 248 [V.agg [V.int .u32 y1, V.int .u32
 y2, V.int .u32 y3, V.int .u32 y4, V.int .u32 y5, V.int .u32 y6, V.int .u32 y7, V.int .u32 y8], V.sl y9 y10] = T248 (orc C k) k m q0 q1 y1 y2 y3 y4 y5 y6 y7 y8 y9 y10 := by kernel_rfl
theorem E248 (y1 : Int) (y2 : Int) (y3 : Int) (y4 : Int) (y5 : Int) (y6 : Int) (y7 : Int) (y8 : Int) (y9 : Nat) (y10 : List V) {r : V} (h : T248 (orcE C) 0 0 0 0 y1 y2 y3 y4 y5 y6 y7 y8 y9 y10 = some
 r) : runE C 248 [V.agg [V.int .u32 y1, V.int .u32 y2, V.int .u32 y3, V.int .u32 y4, V.int .u32 y5, V.int .u32 y6, V.int .u32 y7, V.int .u32 y8], V.sl y9 y10] = some r := ofR (F := fun s => T248 (orc C
 s.k) s.k s.m 0 0 y1 y2 y3 y4 y5 y6 y7 y8 y9 y10) (fun k => e248 k k 0 0 y1 y2 y3 y4 y5 y6 y7 y8 y9 y10) (by
  unfold T248
  repeat' first | with_reducible exact cC | exact cD0 gK) h

noncomputable def T183l5 (O : Orc) (k m q0 q1 : Nat) (y1 : Nat) (y2 : List V) (y3 : List V) : Option V := bif decide ((↑y1 : Int) > 0) then PI.asInt .u32 y3[0]? fun x1 => PI.asInt .u32 y3[1]? fun x2 =>
 PI.asInt .u32 y3[2]? fun x3 => PI.asInt .u32 y3[3]? fun x4 => PI.asInt .u32 y3[4]? fun x5 => PI.asInt .u32 y3[5]? fun x6 => PI.asInt .u32 y3[6]? fun x7 => PI.asInt .u32 y3[7]? fun x8 => must (true &&
 decide (64 ≤ (↑y1 : Int))) (need (O.R 0 248 [V.agg [V.int .u32 x1, V.int .u32 x2, V.int .u32 x3, V.int .u32 x4, V.int .u32 x5, V.int .u32 x6, V.int .u32 x7, V.int .u32 x8], V.sl 64 (List.take 64
 (List.drop 0 y2))]) fun x9 => asTup (some x9) fun x10 => PI.asInt .u32 x10[0]? fun x11 => PI.asInt .u32 x10[1]? fun x12 => PI.asInt .u32 x10[2]? fun x13 => PI.asInt .u32 x10[3]? fun x14 => PI.asInt
 .u32 x10[4]? fun x15 => PI.asInt .u32 x10[5]? fun x16 => PI.asInt .u32 x10[6]? fun x17 => PI.asInt .u32 x10[7]? fun x18 => must ([V.int .u32 x11, V.int .u32 x12, V.int .u32 x13, V.int .u32 x14, V.int
 .u32 x15, V.int .u32 x16, V.int .u32 x17, V.int .u32 x18].length.beq 8 && true && (0 + [V.int .u32 x11, V.int .u32 x12, V.int .u32 x13, V.int .u32 x14, V.int .u32 x15, V.int .u32 x16, V.int .u32 x17,
 V.int .u32 x18].length).ble y3.length && flatB C 278 [V.int .u32 x11, V.int .u32 x12, V.int .u32 x13, V.int .u32 x14, V.int .u32 x15, V.int .u32 x16, V.int .u32 x17, V.int .u32 x18]) (must (true &&
 decide (64 ≤ (↑y1 : Int))) (O.L 0 183 6 [true, true, true, true, true, true, true, true, false] [] m [(3, V.sl (y1 - 64) (List.take ((y1 - 64) * 1) (List.drop 64 y2))), (8, V.ptr 0 0)] [Ob.box 278
 (splice y3 0 [V.int .u32 x11, V.int .u32 x12, V.int .u32 x13, V.int .u32 x14, V.int .u32 x15, V.int .u32 x16, V.int .u32 x17, V.int .u32 x18]) false]))) else PI.asInt .u32 y3[0]? fun x19 => PI.asInt
 .u32 y3[1]? fun x20 => PI.asInt .u32 y3[2]? fun x21 => PI.asInt .u32 y3[3]? fun x22 => PI.asInt .u32 y3[4]? fun x23 => PI.asInt .u32 y3[5]? fun x24 => PI.asInt .u32 y3[6]? fun x25 => PI.asInt .u32
 y3[7]? fun x26 => O.L 0 183 8 [true, true, true, true, true, true, true, true, true, true, false, true] [] k [(9, V.ref 0), (59, V.agg [V.int .u32 x19, V.int .u32 x20, V.int .u32 x21, V.int .u32 x22,
 V.int .u32 x23, V.int .u32 x24, V.int .u32 x25, V.int .u32 x26]), (60, V.int .i64 0)] [Ob.row 5 0 [] false]
theorem e183l5 (k m q0 q1 : Nat) (y1 : Nat) (y2 : List V) (y3 : List V) : runL C k 183 6 [true, true, true, true, true, true, true, true, false] [] (m + 1) [(3, V.sl y1 y2), (8, V.ptr 0 0)] [Ob.box 278
 y3 false] = T183l5 (orc C k) k m q0 q1 y1 y2 y3 := by kernel_rfl
theorem E183l5 (y1 : Nat) (y2 : List V) (y3 : List V) {r : V} (h : T183l5 (orcE C) 0 0 0 0 y1 y2 y3 = some r) : loopE C 183 6 [true, true, true, true, true, true, true, true, false] [] [(3, V.sl y1
 y2), (8, V.ptr 0 0)] [Ob.box 278 y3 false] = some r := ofL (j := 0) (F := fun s => T183l5 (orc C s.k) s.k s.m 0 0 y1 y2 y3) (fs0 fun k m => e183l5 k m 0 0 y1 y2 y3) (by
  unfold T183l5
  repeat' first | with_reducible exact cC | with_reducible refine cN cR fun _ => ?_ | with_reducible refine cT fun _ => ?_ | with_reducible refine cI fun _ => ?_ | with_reducible refine cM ?_ | with_reducible refine cF ?_ ?_ | with_reducible refine cN cC fun _ => ?_ | with_reducible exact cR | exact cD0 gK | exact cD0 gM) h

noncomputable def T183l6 (O : Orc) (k m q0 q1 : Nat) (y1 : Int) (y2 : Int) (y3 : Int) (y4 : Int) (y5 : Int) (y6 : Int) (y7 : Int) (y8 : Int) (y9 : Int) (y10 : Nat) (y11 : List V) : Option V := bif
 decide (y9 < 8) then must (inB y9 8) (PI.asInt .u32 [V.int .u32 y1, V.int .u32 y2, V.int .u32 y3, V.int .u32 y4, V.int .u32 y5, V.int .u32 y6, V.int .u32 y7, V.int .u32 y8][y9.toNat * 1]? fun x1 =>
 must (true && (y10 + 4).ble 140737488355328 && ((y10 + 4) * 1).ble 140737488355328) (O.L 0 183 8 [true, true, true, true, true, true, true, true, true, true, false, true] [] m [(9, V.ref 0), (59,
 V.agg [V.int .u32 y1, V.int .u32 y2, V.int .u32 y3, V.int .u32 y4, V.int .u32 y5, V.int .u32 y6, V.int .u32 y7, V.int .u32 y8]), (60, V.int .i64 (IntKind.i64.wrap (y9 + 1)))] [Ob.row 5 (y10 + 4) (y11
 ++ [V.int .u8 (IntKind.u8.wrap (x1.fdiv 16777216)), V.int .u8 (IntKind.u8.wrap (x1.fdiv 65536)), V.int .u8 (IntKind.u8.wrap (x1.fdiv 256)), V.int .u8 (IntKind.u8.wrap x1)]) false])) else some (V.tup
 [V.sl y10 y11])
theorem e183l6 (k m q0 q1 : Nat) (y1 : Int) (y2 : Int) (y3 : Int) (y4 : Int) (y5 : Int) (y6 : Int) (y7 : Int) (y8 : Int) (y9 : Int) (y10 : Nat) (y11 : List V) : runL C k 183 8 [true, true, true, true,
 true, true, true, true, true, true, false, true] [] (m + 1) [(9, V.ref 0), (59, V.agg [V.int .u32 y1, V.int .u32 y2, V.int .u32 y3, V.int .u32 y4, V.int .u32 y5, V.int .u32 y6, V.int .u32 y7, V.int
 .u32 y8]), (60, V.int .i64 y9)] [Ob.row 5 y10 y11 false] = T183l6 (orc C k) k m q0 q1 y1 y2 y3 y4 y5 y6 y7 y8 y9 y10 y11 := by kernel_rfl
theorem E183l6 (y1 : Int) (y2 : Int) (y3 : Int) (y4 : Int) (y5 : Int) (y6 : Int) (y7 : Int) (y8 : Int) (y9 : Int) (y10 : Nat) (y11 : List V) {r : V} (h : T183l6 (orcE C) 0 0 0 0 y1 y2 y3 y4 y5 y6 y7 y8
 y9 y10 y11 = some r) : loopE C 183 8 [true, true, true, true, true, true, true, true, true, true, false, true] [] [(9, V.ref 0), (59, V.agg [V.int .u32 y1, V.int .u32 y2, V.int .u32 y3, V.int .u32 y4,
 V.int .u32 y5, V.int .u32 y6, V.int .u32 y7, V.int .u32 y8]), (60, V.int .i64 y9)] [Ob.row 5 y10 y11 false] = some r := ofL (j := 0) (F := fun s => T183l6 (orc C s.k) s.k s.m 0 0 y1 y2 y3 y4 y5 y6 y7
 y8 y9 y10 y11) (fs0 fun k m => e183l6 k m 0 0 y1 y2 y3 y4 y5 y6 y7 y8 y9 y10 y11) (by
  unfold T183l6
  repeat' first | with_reducible exact cC | with_reducible refine cI fun _ => ?_ | with_reducible refine cM ?_ | with_reducible refine cF ?_ ?_ | exact cD0 gM) h

noncomputable def T292 (O : Orc) (k m q0 q1 : Nat) (y1 : Int) : Option V := some (V.tup [V.int .i64 (IntKind.i64.wrap (4294967295 - y1))])
theorem e292 (k m q0 q1 : Nat) (y1 : Int) : runV C (k + 1) 292 [V.int .i64 y1] = T292 (orc C k) k m q0 q1 y1 := by kernel_rfl
theorem E292 (y1 : Int) {r : V} (h : T292 (orcE C) 0 0 0 0 y1 = some r) : runE C 292 [V.int .i64 y1] = some r := ofR (F := fun s => T292 (orc C s.k) s.k s.m 0 0 y1) (fun k => e292 k k 0 0 y1) (by
  unfold T292
  exact cC) h

noncomputable def T248l1 (O : Orc) (k m q0 q1 : Nat) (y1 : Nat) (y2 : List V) (y3 : Int) (y4 : List V) (y5 : List V) (y6 : List V) : Option V := bif decide (y3 < 64) then bif decide (y3 < 16) then must
 (inB (IntKind.i64.wrap (4 * y3)) y1) (PI.asInt .u8 y2[(IntKind.i64.wrap (4 * y3)).toNat * 1]? fun x1 => must (inB (IntKind.i64.wrap (IntKind.i64.wrap (4 * y3) + 1)) y1) (PI.asInt .u8
 y2[(IntKind.i64.wrap (IntKind.i64.wrap (4 * y3) + 1)).toNat * 1]? fun x2 => must (inB (IntKind.i64.wrap (IntKind.i64.wrap (4 * y3) + 2)) y1) (PI.asInt .u8 y2[(IntKind.i64.wrap (IntKind.i64.wrap (4 *
 y3) + 2)).toNat * 1]? fun x3 => must (inB (IntKind.i64.wrap (IntKind.i64.wrap (4 * y3) + 3)) y1) (PI.asInt .u8 y2[(IntKind.i64.wrap (IntKind.i64.wrap (4 * y3) + 3)).toNat * 1]? fun x4 => must (inB y3
 64) (must ((V.int .u32 (PI.bits IntKind.u32 (fun x1 x2 => x1 ||| x2) (PI.bits IntKind.u32 (fun x1 x2 => x1 ||| x2) (PI.bits IntKind.u32 (fun x1 x2 => x1 ||| x2) (IntKind.u32.wrap (IntKind.u32.wrap x1
 * 16777216)) (IntKind.u32.wrap (IntKind.u32.wrap x2 * 65536))) (IntKind.u32.wrap (IntKind.u32.wrap x3 * 256))) (IntKind.u32.wrap x4))).solid && true && (0 + y3.toNat * 1 + 1).ble y6.length && flatB C
 306 [V.int .u32 (PI.bits IntKind.u32 (fun x1 x2 => x1 ||| x2) (PI.bits IntKind.u32 (fun x1 x2 => x1 ||| x2) (PI.bits IntKind.u32 (fun x1 x2 => x1 ||| x2) (IntKind.u32.wrap (IntKind.u32.wrap x1 *
 16777216)) (IntKind.u32.wrap (IntKind.u32.wrap x2 * 65536))) (IntKind.u32.wrap (IntKind.u32.wrap x3 * 256))) (IntKind.u32.wrap x4))]) (O.L 0 248 0 [true, true, false, true] [] m [(1, V.sl y1 y2), (2,
 V.ptr 0 0), (4, V.ptr 1 0), (5, V.ptr 2 0), (16, V.int .i64 (IntKind.i64.wrap (y3 + 1)))] [Ob.box 278 y4 false, Ob.box 278 y5 false, Ob.box 306 (splice y6 (0 + y3.toNat * 1) [V.int .u32 (PI.bits
 IntKind.u32 (fun x1 x2 => x1 ||| x2) (PI.bits IntKind.u32 (fun x1 x2 => x1 ||| x2) (PI.bits IntKind.u32 (fun x1 x2 => x1 ||| x2) (IntKind.u32.wrap (IntKind.u32.wrap x1 * 16777216)) (IntKind.u32.wrap
 (IntKind.u32.wrap x2 * 65536))) (IntKind.u32.wrap (IntKind.u32.wrap x3 * 256))) (IntKind.u32.wrap x4))]) false])))))) else must (inB (IntKind.i64.wrap (y3 - 15)) 64) (PI.asInt .u32 y6[0 +
 (IntKind.i64.wrap (y3 - 15)).toNat * 1]? fun x5 => must (inB (IntKind.i64.wrap (y3 - 2)) 64) (PI.asInt .u32 y6[0 + (IntKind.i64.wrap (y3 - 2)).toNat * 1]? fun x6 => need (O.R 0 289 [V.int .u32 x5,
 V.int .i64 (-7)]) fun x7 => asTup (some x7) fun x8 => PI.asInt .u32 x8[0]? fun x9 => need (O.R 0 289 [V.int .u32 x5, V.int .i64 (-18)]) fun x10 => asTup (some x10) fun x11 => PI.asInt .u32 x11[0]? fun
 x12 => need (O.R 0 289 [V.int .u32 x6, V.int .i64 (-17)]) fun x13 => asTup (some x13) fun x14 => PI.asInt .u32 x14[0]? fun x15 => need (O.R 0 289 [V.int .u32 x6, V.int .i64 (-19)]) fun x16 => asTup
 (some x16) fun x17 => PI.asInt .u32 x17[0]? fun x18 => must (inB (IntKind.i64.wrap (y3 - 7)) 64) (PI.asInt .u32 y6[0 + (IntKind.i64.wrap (y3 - 7)).toNat * 1]? fun x19 => must (inB (IntKind.i64.wrap
 (y3 - 16)) 64) (PI.asInt .u32 y6[0 + (IntKind.i64.wrap (y3 - 16)).toNat * 1]? fun x20 => must (inB y3 64) (must ((V.int .u32 (IntKind.u32.wrap (IntKind.u32.wrap (IntKind.u32.wrap (PI.bits IntKind.u32
 (fun x1 x2 => x1 ^^^ x2) (PI.bits IntKind.u32 (fun x1 x2 => x1 ^^^ x2) x15 x18) (x6.fdiv 1024) + x19) + PI.bits IntKind.u32 (fun x1 x2 => x1 ^^^ x2) (PI.bits IntKind.u32 (fun x1 x2 => x1 ^^^ x2) x9
 x12) (x5.fdiv 8)) + x20))).solid && true && (0 + y3.toNat * 1 + 1).ble y6.length && flatB C 306 [V.int .u32 (IntKind.u32.wrap (IntKind.u32.wrap (IntKind.u32.wrap (PI.bits IntKind.u32 (fun x1 x2 => x1
 ^^^ x2) (PI.bits IntKind.u32 (fun x1 x2 => x1 ^^^ x2) x15 x18) (x6.fdiv 1024) + x19) + PI.bits IntKind.u32 (fun x1 x2 => x1 ^^^ x2) (PI.bits IntKind.u32 (fun x1 x2 => x1 ^^^ x2) x9 x12) (x5.fdiv 8)) +
 x20))]) (O.L 0 248 0 [true, true, false, true] [] m [(1, V.sl y1 y2), (2, V.ptr 0 0), (4, V.ptr 1 0), (5, V.ptr 2 0), (16, V.int .i64 (IntKind.i64.wrap (y3 + 1)))] [Ob.box 278 y4 false, Ob.box 278 y5
 false, Ob.box 306 (splice y6 (0 + y3.toNat * 1) [V.int .u32 (IntKind.u32.wrap (IntKind.u32.wrap (IntKind.u32.wrap (PI.bits IntKind.u32 (fun x1 x2 => x1 ^^^ x2) (PI.bits IntKind.u32 (fun x1 x2 => x1
 ^^^ x2) x15 x18) (x6.fdiv 1024) + x19) + PI.bits IntKind.u32 (fun x1 x2 => x1 ^^^ x2) (PI.bits IntKind.u32 (fun x1 x2 => x1 ^^^ x2) x9 x12) (x5.fdiv 8)) + x20))]) false])))))) else PI.asInt .u32
 y4[0]? fun x21 => PI.asInt .u32 y4[1]? fun x22 => PI.asInt .u32 y4[2]? fun x23 => PI.asInt .u32 y4[3]? fun x24 => PI.asInt .u32 y4[4]? fun x25 => PI.asInt .u32 y4[5]? fun x26 => PI.asInt .u32 y4[6]?
 fun x27 => PI.asInt .u32 y4[7]? fun x28 => need (O.R 0 290 []) fun x29 => PI.asAgg (some x29) fun x30 => O.L 0 248 2 [true, true, true, true, false, true] [] k [(2, V.ptr 0 0), (4, V.ptr 1 0), (5,
 V.ptr 2 0), (11, V.ptr 3 0), (97, V.agg (renV.renL [] x30)), (98, V.int .i64 0)] [Ob.box 278 y4 false, Ob.box 278 y5 false, Ob.box 306 y6 false, Ob.box 278 [V.int .u32 x21, V.int .u32 x22, V.int .u32
 x23, V.int .u32 x24, V.int .u32 x25, V.int .u32 x26, V.int .u32 x27, V.int .u32 x28] false]
theorem e248l1 (k m q0 q1 : Nat) (y1 : Nat) (y2 : List V) (y3 : Int) (y4 : List V) (y5 : List V) (y6 : List V) : runL C k 248 0 [true, true, false, true] [] (m + 1) [(1, V.sl y1 y2), (2, V.ptr 0 0),
 (4, V.ptr 1 0), (5, V.ptr 2 0), (16, V.int .i64 y3)] [Ob.box 278 y4 false, Ob.box 278 y5 false, Ob.box 306 y6 false] = T248l1 (orc C k) k m q0 q1 y1 y2 y3 y4 y5 y6 := by kernel_rfl
theorem E248l1 (y1 : Nat) (y2 : List V) (y3 : Int) (y4 : List V) (y5 : List V) (y6 : List V) {r : V} (h : T248l1 (orcE C) 0 0 0 0 y1 y2 y3 y4 y5 y6 = some r) : loopE C 248 0 [true, true, false, true]
 [] [(1, V.sl y1 y2), (2, V.ptr 0 0), (4, V.ptr 1 0), (5, V.ptr 2 0), (16, V.int .i64 y3)] [Ob.box 278 y4 false, Ob.box 278 y5 false, Ob.box 306 y6 false] = some r := ofL (j := 0) (F := fun s => T248l1
 (orc C s.k) s.k s.m 0 0 y1 y2 y3 y4 y5 y6) (fs0 fun k m => e248l1 k m 0 0 y1 y2 y3 y4 y5 y6) (by
  unfold T248l1
  repeat' first | with_reducible exact cC | with_reducible refine cN cR fun _ => ?_ | with_reducible refine cT fun _ => ?_ | with_reducible refine cI fun _ => ?_ | with_reducible refine cM ?_ | with_reducible refine cF ?_ ?_ | with_reducible refine cA fun _ => ?_ | with_reducible refine cN cC fun _ => ?_ | with_reducible exact cR | exact cD0 gK | exact cD0 gM) h

noncomputable def T289 (O : Orc) (k m q0 q1 : Nat) (y1 : Int) (y2 : Int) : Option V := must (decide (0 ≤ IntKind.u64.wrap (32 - PI.bits IntKind.u64 (fun x1 x2 => x1 &&& x2) (IntKind.u64.wrap y2) 31)))
 (some (V.tup [V.int .u32 (PI.bits IntKind.u32 (fun x1 x2 => x1 ||| x2) (IntKind.u32.wrap (y1 * 2 ^ min (PI.bits IntKind.u64 (fun x1 x2 => x1 &&& x2) (IntKind.u64.wrap y2) 31).toNat 32)) (y1.fdiv (2 ^
 min (IntKind.u64.wrap (32 - PI.bits IntKind.u64 (fun x1 x2 => x1 &&& x2) (IntKind.u64.wrap y2) 31)).toNat 32)))]))
theorem e289 (k m q0 q1 : Nat) (y1 : Int) (y2 : Int) : runV C (k + 1) 289 [V.int .u32 y1, V.int .i64 y2] = T289 (orc C k) k m q0 q1 y1 y2 := by kernel_rfl
theorem E289 (y1 : Int) (y2 : Int) {r : V} (h : T289 (orcE C) 0 0 0 0 y1 y2 = some r) : runE C 289 [V.int .u32 y1, V.int .i64 y2] = some r := ofR (F := fun s => T289 (orc C s.k) s.k s.m 0 0 y1 y2) (fun
 k => e289 k k 0 0 y1 y2) (by
  unfold T289
  repeat' first | with_reducible exact cC | with_reducible refine cM ?_) h

noncomputable def T290 (O : Orc) (k m q0 q1 : Nat)  : Option V := some (V.agg [V.int .u32 1116352408, V.int .u32 1899447441, V.int .u32 3049323471, V.int .u32 3921009573, V.int .u32 961987163, V.int
 .u32 1508970993, V.int .u32 2453635748, V.int .u32 2870763221, V.int .u32 3624381080, V.int .u32 310598401, V.int .u32 607225278, V.int .u32 1426881987, V.int .u32 1925078388, V.int .u32 2162078206,
 V.int .u32 2614888103, V.int .u32 3248222580, V.int .u32 3835390401, V.int .u32 4022224774, V.int .u32 264347078, V.int .u32 604807628, V.int .u32 770255983, V.int .u32 1249150122, V.int .u32
 1555081692, V.int .u32 1996064986, V.int .u32 2554220882, V.int .u32 2821834349, V.int .u32 2952996808, V.int .u32 3210313671, V.int .u32 3336571891, V.int .u32 3584528711, V.int .u32 113926993, V.int
 .u32 338241895, V.int .u32 666307205, V.int .u32 773529912, V.int .u32 1294757372, V.int .u32 1396182291, V.int .u32 1695183700, V.int .u32 1986661051, V.int .u32 2177026350, V.int .u32 2456956037,
 V.int .u32 2730485921, V.int .u32 2820302411, V.int .u32 3259730800, V.int .u32 3345764771, V.int .u32 3516065817, V.int .u32 3600352804, V.int .u32 4094571909, V.int .u32 275423344, V.int .u32
 430227734, V.int .u32 506948616, V.int .u32 659060556, V.int .u32 883997877, V.int .u32 958139571, V.int .u32 1322822218, V.int .u32 1537002063, V.int .u32 1747873779, V.int .u32 1955562222, V.int
 .u32 2024104815, V.int .u32 2227730452, V.int .u32 2361852424, V.int .u32 2428436474, V.int .u32 2756734187, V.int .u32 3204031479, V.int .u32 3329325298])
theorem e290 (k m q0 q1 : Nat)  : runV C (k + 1) 290 [] = T290 (orc C k) k m q0 q1  := by kernel_rfl
theorem E290  {r : V} (h : T290 (orcE C) 0 0 0 0  = some r) : runE C 290 [] = some r := ofR (F := fun s => T290 (orc C s.k) s.k s.m 0 0 ) (fun k => e290 k k 0 0 ) (by
  unfold T290
  exact cC) h

noncomputable def T248l2 (O : Orc) (k m q0 q1 : Nat) (y1 : List V) (y2 : Int) (y3 : List V) (y4 : List V) (y5 : List V) (y6 : List V) : Option V := bif decide (y2 < 64) then must (inB y2 64) (PI.asInt
 .u32 y1[y2.toNat * 1]? fun x1 => PI.asInt .u32 y6[0]? fun x2 => PI.asInt .u32 y6[1]? fun x3 => PI.asInt .u32 y6[2]? fun x4 => PI.asInt .u32 y6[3]? fun x5 => PI.asInt .u32 y6[4]? fun x6 => PI.asInt
 .u32 y6[5]? fun x7 => PI.asInt .u32 y6[6]? fun x8 => PI.asInt .u32 y6[7]? fun x9 => must (inB y2 64) (PI.asInt .u32 y5[0 + y2.toNat * 1]? fun x10 => need (O.R 0 291 [V.agg [V.int .u32 x2, V.int .u32
 x3, V.int .u32 x4, V.int .u32 x5, V.int .u32 x6, V.int .u32 x7, V.int .u32 x8, V.int .u32 x9], V.int .u32 x10, V.int .u32 x1]) fun x11 => asTup (some x11) fun x12 => PI.asInt .u32 x12[0]? fun x13 =>
 PI.asInt .u32 x12[1]? fun x14 => PI.asInt .u32 x12[2]? fun x15 => PI.asInt .u32 x12[3]? fun x16 => PI.asInt .u32 x12[4]? fun x17 => PI.asInt .u32 x12[5]? fun x18 => PI.asInt .u32 x12[6]? fun x19 =>
 PI.asInt .u32 x12[7]? fun x20 => must ([V.int .u32 x13, V.int .u32 x14, V.int .u32 x15, V.int .u32 x16, V.int .u32 x17, V.int .u32 x18, V.int .u32 x19, V.int .u32 x20].length.beq 8 && true && (0 +
 [V.int .u32 x13, V.int .u32 x14, V.int .u32 x15, V.int .u32 x16, V.int .u32 x17, V.int .u32 x18, V.int .u32 x19, V.int .u32 x20].length).ble y6.length && flatB C 278 [V.int .u32 x13, V.int .u32 x14,
 V.int .u32 x15, V.int .u32 x16, V.int .u32 x17, V.int .u32 x18, V.int .u32 x19, V.int .u32 x20]) (O.L 0 248 2 [true, true, true, true, false, true] [] m [(2, V.ptr 0 0), (4, V.ptr 1 0), (5, V.ptr 2
 0), (11, V.ptr 3 0), (97, V.agg (renV.renL [] y1)), (98, V.int .i64 (IntKind.i64.wrap (y2 + 1)))] [Ob.box 278 y3 false, Ob.box 278 y4 false, Ob.box 306 y5 false, Ob.box 278 (splice y6 0 [V.int .u32
 x13, V.int .u32 x14, V.int .u32 x15, V.int .u32 x16, V.int .u32 x17, V.int .u32 x18, V.int .u32 x19, V.int .u32 x20]) false]))) else O.L 0 248 4 [true, true, true, true, true, false, true] [] k [(2,
 V.ptr 0 0), (4, V.ptr 1 0), (11, V.ptr 2 0), (109, V.int .i64 0)] [Ob.box 278 y3 false, Ob.box 278 y4 false, Ob.box 278 y6 false]
theorem e248l2 (k m q0 q1 : Nat) (y1 : List V) (y2 : Int) (y3 : List V) (y4 : List V) (y5 : List V) (y6 : List V) : runL C k 248 2 [true, true, true, true, false, true] [] (m + 1) [(2, V.ptr 0 0), (4,
 V.ptr 1 0), (5, V.ptr 2 0), (11, V.ptr 3 0), (97, V.agg y1), (98, V.int .i64 y2)] [Ob.box 278 y3 false, Ob.box 278 y4 false, Ob.box 306 y5 false, Ob.box 278 y6 false] = T248l2 (orc C k) k m q0 q1 y1
 y2 y3 y4 y5 y6 := by kernel_rfl
theorem E248l2 (y1 : List V) (y2 : Int) (y3 : List V) (y4 : List V) (y5 : List V) (y6 : List V) {r : V} (h : T248l2 (orcE C) 0 0 0 0 y1 y2 y3 y4 y5 y6 = some r) : loopE C 248 2 [true, true, true, true,
 false, true] [] [(2, V.ptr 0 0), (4, V.ptr 1 0), (5, V.ptr 2 0), (11, V.ptr 3 0), (97, V.agg y1), (98, V.int .i64 y2)] [Ob.box 278 y3 false, Ob.box 278 y4 false, Ob.box 306 y5 false, Ob.box 278 y6
 false] = some r := ofL (j := 0) (F := fun s => T248l2 (orc C s.k) s.k s.m 0 0 y1 y2 y3 y4 y5 y6) (fs0 fun k m => e248l2 k m 0 0 y1 y2 y3 y4 y5 y6) (by
  unfold T248l2
  repeat' first | with_reducible exact cC | with_reducible refine cN cR fun _ => ?_ | with_reducible refine cT fun _ => ?_ | with_reducible refine cI fun _ => ?_ | with_reducible refine cM ?_ | with_reducible refine cF ?_ ?_ | with_reducible refine cN cC fun _ => ?_ | with_reducible exact cR | exact cD0 gK | exact cD0 gM) h

noncomputable def T291 (O : Orc) (k m q0 q1 : Nat) (y1 : Int) (y2 : Int) (y3 : Int) (y4 : Int) (y5 : Int) (y6 : Int) (y7 : Int) (y8 : Int) (y9 : Int) (y10 : Int) : Option V := need (O.R 0 302 [V.int
 .u32 y5, V.int .i64 6]) fun x1 => asTup (some x1) fun x2 => PI.asInt .u32 x2[0]? fun x3 => need (O.R 0 302 [V.int .u32 y5, V.int .i64 11]) fun x4 => asTup (some x4) fun x5 => PI.asInt .u32 x5[0]? fun
 x6 => need (O.R 0 302 [V.int .u32 y5, V.int .i64 25]) fun x7 => asTup (some x7) fun x8 => PI.asInt .u32 x8[0]? fun x9 => need (O.R 0 302 [V.int .u32 y1, V.int .i64 2]) fun x10 => asTup (some x10) fun
 x11 => PI.asInt .u32 x11[0]? fun x12 => need (O.R 0 302 [V.int .u32 y1, V.int .i64 13]) fun x13 => asTup (some x13) fun x14 => PI.asInt .u32 x14[0]? fun x15 => need (O.R 0 302 [V.int .u32 y1, V.int
 .i64 22]) fun x16 => asTup (some x16) fun x17 => PI.asInt .u32 x17[0]? fun x18 => some (V.tup [V.int .u32 (IntKind.u32.wrap (IntKind.u32.wrap (IntKind.u32.wrap (IntKind.u32.wrap (IntKind.u32.wrap (y8
 + PI.bits IntKind.u32 (fun x1 x2 => x1 ^^^ x2) (PI.bits IntKind.u32 (fun x1 x2 => x1 ^^^ x2) x3 x6) x9) + PI.bits IntKind.u32 (fun x1 x2 => x1 ^^^ x2) (PI.bits IntKind.u32 (fun x1 x2 => x1 &&& x2) y5
 y6) (PI.bits IntKind.u32 (fun x1 x2 => x1 &&& x2) (PI.bits IntKind.u32 (fun x1 x2 => x1 ^^^ x2) 4294967295 y5) y7)) + y10) + y9) + IntKind.u32.wrap (PI.bits IntKind.u32 (fun x1 x2 => x1 ^^^ x2)
 (PI.bits IntKind.u32 (fun x1 x2 => x1 ^^^ x2) x12 x15) x18 + PI.bits IntKind.u32 (fun x1 x2 => x1 ^^^ x2) (PI.bits IntKind.u32 (fun x1 x2 => x1 ^^^ x2) (PI.bits IntKind.u32 (fun x1 x2 => x1 &&& x2) y1
 y2) (PI.bits IntKind.u32 (fun x1 x2 => x1 &&& x2) y1 y3)) (PI.bits IntKind.u32 (fun x1 x2 => x1 &&& x2) y2 y3)))), V.int .u32 y1, V.int .u32 y2, V.int .u32 y3, V.int .u32 (IntKind.u32.wrap (y4 +
 IntKind.u32.wrap (IntKind.u32.wrap (IntKind.u32.wrap (IntKind.u32.wrap (y8 + PI.bits IntKind.u32 (fun x1 x2 => x1 ^^^ x2) (PI.bits IntKind.u32 (fun x1 x2 => x1 ^^^ x2) x3 x6) x9) + PI.bits IntKind.u32
 (fun x1 x2 => x1 ^^^ x2) (PI.bits IntKind.u32 (fun x1 x2 => x1 &&& x2) y5 y6) (PI.bits IntKind.u32 (fun x1 x2 => x1 &&& x2) (PI.bits IntKind.u32 (fun x1 x2 => x1 ^^^ x2) 4294967295 y5) y7)) + y10) +
 y9))), V.int .u32 y5, V.int .u32 y6, V.int .u32 y7])
theorem e291 (k m q0 q1 : Nat) (y1 : Int) (y2 : Int) (y3 : Int) (y4 : Int) (y5 : Int) (y6 : Int) (y7 : Int) (y8 : Int) (y9 : Int) (y10 : Int) : runV C (k + 1) 291 [V.agg [V.int .u32 y1, V.int .u32 y2,
 V.int .u32 y3, V.int .u32 y4, V.int .u32 y5, V.int .u32 y6, V.int .u32 y7, V.int .u32 y8], V.int .u32 y9, V.int .u32 y10] = T291 (orc C k) k m q0 q1 y1 y2 y3 y4 y5 y6 y7 y8 y9 y10 := by kernel_rfl
theorem E291 (y1 : Int) (y2 : Int) (y3 : Int) (y4 : Int) (y5 : Int) (y6 : Int) (y7 : Int) (y8 : Int) (y9 : Int) (y10 : Int) {r : V} (h : T291 (orcE C) 0 0 0 0 y1 y2 y3 y4 y5 y6 y7 y8 y9 y10 = some r) :
 runE C 291 [V.agg [V.int .u32 y1, V.int .u32 y2, V.int .u32 y3, V.int .u32 y4, V.int .u32 y5, V.int .u32 y6, V.int .u32 y7, V.int .u32 y8], V.int .u32 y9, V.int .u32 y10] = some r := ofR (F := fun s
 => T291 (orc C s.k) s.k s.m 0 0 y1 y2 y3 y4 y5 y6 y7 y8 y9 y10) (fun k => e291 k k 0 0 y1 y2 y3 y4 y5 y6 y7 y8 y9 y10) (by
  unfold T291
  repeat' first | with_reducible exact cC | with_reducible refine cN cR fun _ => ?_ | with_reducible refine cT fun _ => ?_ | with_reducible refine cI fun _ => ?_ | with_reducible refine cN cC fun _ => ?_ | with_reducible exact cR) h

noncomputable def T248l3 (O : Orc) (k m q0 q1 : Nat) (y1 : Int) (y2 : List V) (y3 : List V) (y4 : List V) : Option V := bif decide (y1 < 8) then must (inB y1 8) (PI.asInt .u32 y4[0 + y1.toNat * 1]? fun
 x1 => must (inB y1 8) (PI.asInt .u32 y2[0 + y1.toNat * 1]? fun x2 => must (inB y1 8) (must ((V.int .u32 (IntKind.u32.wrap (x1 + x2))).solid && true && (0 + y1.toNat * 1 + 1).ble y4.length && flatB C
 278 [V.int .u32 (IntKind.u32.wrap (x1 + x2))]) (O.L 0 248 4 [true, true, true, true, true, false, true] [] m [(2, V.ptr 0 0), (4, V.ptr 1 0), (11, V.ptr 2 0), (109, V.int .i64 (IntKind.i64.wrap (y1 +
 1)))] [Ob.box 278 y2 false, Ob.box 278 y3 false, Ob.box 278 (splice y4 (0 + y1.toNat * 1) [V.int .u32 (IntKind.u32.wrap (x1 + x2))]) false])))) else PI.asInt .u32 y4[0]? fun x3 => PI.asInt .u32 y4[1]?
 fun x4 => PI.asInt .u32 y4[2]? fun x5 => PI.asInt .u32 y4[3]? fun x6 => PI.asInt .u32 y4[4]? fun x7 => PI.asInt .u32 y4[5]? fun x8 => PI.asInt .u32 y4[6]? fun x9 => PI.asInt .u32 y4[7]? fun x10 =>
 must ([V.int .u32 x3, V.int .u32 x4, V.int .u32 x5, V.int .u32 x6, V.int .u32 x7, V.int .u32 x8, V.int .u32 x9, V.int .u32 x10].length.beq 8 && true && (0 + [V.int .u32 x3, V.int .u32 x4, V.int .u32
 x5, V.int .u32 x6, V.int .u32 x7, V.int .u32 x8, V.int .u32 x9, V.int .u32 x10].length).ble y3.length && flatB C 278 [V.int .u32 x3, V.int .u32 x4, V.int .u32 x5, V.int .u32 x6, V.int .u32 x7, V.int
 .u32 x8, V.int .u32 x9, V.int .u32 x10]) (some (V.tup [V.int .u32 x3, V.int .u32 x4, V.int .u32 x5, V.int .u32 x6, V.int .u32 x7, V.int .u32 x8, V.int .u32 x9, V.int .u32 x10]))
theorem e248l3 (k m q0 q1 : Nat) (y1 : Int) (y2 : List V) (y3 : List V) (y4 : List V) : runL C k 248 4 [true, true, true, true, true, false, true] [] (m + 1) [(2, V.ptr 0 0), (4, V.ptr 1 0), (11, V.ptr
 2 0), (109, V.int .i64 y1)] [Ob.box 278 y2 false, Ob.box 278 y3 false, Ob.box 278 y4 false] = T248l3 (orc C k) k m q0 q1 y1 y2 y3 y4 := by kernel_rfl
theorem E248l3 (y1 : Int) (y2 : List V) (y3 : List V) (y4 : List V) {r : V} (h : T248l3 (orcE C) 0 0 0 0 y1 y2 y3 y4 = some r) : loopE C 248 4 [true, true, true, true, true, false, true] [] [(2, V.ptr
 0 0), (4, V.ptr 1 0), (11, V.ptr 2 0), (109, V.int .i64 y1)] [Ob.box 278 y2 false, Ob.box 278 y3 false, Ob.box 278 y4 false] = some r := ofL (j := 0) (F := fun s => T248l3 (orc C s.k) s.k s.m 0 0 y1
 y2 y3 y4) (fs0 fun k m => e248l3 k m 0 0 y1 y2 y3 y4) (by
  unfold T248l3
  repeat' first | with_reducible exact cC | with_reducible refine cI fun _ => ?_ | with_reducible refine cM ?_ | with_reducible refine cF ?_ ?_ | exact cD0 gM) h

noncomputable def T302 (O : Orc) (k m q0 q1 : Nat) (y1 : Int) (y2 : Int) : Option V := need (O.R 0 289 [V.int .u32 y1, V.int .i64 (IntKind.i64.wrap (0 - y2))]) fun x1 => asTup (some x1) fun x2 =>
 PI.asInt .u32 x2[0]? fun x3 => some (V.tup [V.int .u32 x3])
theorem e302 (k m q0 q1 : Nat) (y1 : Int) (y2 : Int) : runV C (k + 1) 302 [V.int .u32 y1, V.int .i64 y2] = T302 (orc C k) k m q0 q1 y1 y2 := by kernel_rfl
theorem E302 (y1 : Int) (y2 : Int) {r : V} (h : T302 (orcE C) 0 0 0 0 y1 y2 = some r) : runE C 302 [V.int .u32 y1, V.int .i64 y2] = some r := ofR (F := fun s => T302 (orc C s.k) s.k s.m 0 0 y1 y2) (fun
 k => e302 k k 0 0 y1 y2) (by
  unfold T302
  repeat' first | with_reducible exact cC | with_reducible refine cN cR fun _ => ?_ | with_reducible refine cT fun _ => ?_ | with_reducible refine cI fun _ => ?_ | with_reducible refine cN cC fun _ => ?_ | with_reducible exact cR) h

end Go.Proofs.Ytehpmolckdmibaa.EqR

