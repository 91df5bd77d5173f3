/-
  The functions of a table, as the interpreter tells them. Printed by a program.
-/
import Derived.Test.YtgbpimaidhhnjaaGreatPITabV
import Derived.Test.YtgbpimaidhhnjaaGreatPIPlain
import Derived.KernelRfl
namespace Go.Proofs.YtgbpimaidhhnjaaGreat.EqV
open Go Go.PI
set_option maxRecDepth 100000
set_option maxHeartbeats 4000000
set_option linter.unusedVariables false
set_option linter.unusedSimpArgs false
noncomputable abbrev C := tabV.cfg

noncomputable def T3 (O : Orc) (k m q0 q1 : Nat) (y1 y2 : Int) (y3 : Nat) (y4 : List V) (y5 : Nat) (y6 : List V) (y7 : Nat) (y8 : List V) (y9 : Nat) (y10 : List V) (y11 : Int) (y12 : Bool) (y13
 : Nat) (y14 : List V) (y15 : Int) (y16 : Nat) (y17 : List V) (y18 : Int) (y19 : Int) (y20 : Nat) (y21 : List V) (y22 : Nat) (y23 : List V) (y24 : Nat) (y25 : List V) (y26 : Nat) (y27 : List V) (y28 :
 Int) (y29 : Int) (y30 : Nat) (y31 : List V) (y32 : Nat) (y33 : List V) (y34 : Nat) (y35 : List V) (y36 : Nat) (y37 : List V) (y38 : Int) : Option V := need (O.R 0 7 [V.agg [V.int .i64 y1, V.int .i64
 y2, V.sl y3 y4, V.sl y5 y6, V.sl y7 y8, V.sl y9 y10, V.int .i64 y11, V.bool y12, V.sl y13 y14, V.int .i64 y15], V.int .i64 1048576]) fun x1 => asTup (some x1) fun x2 => PI.asInt .i64 x2[0]? fun x3 =>
 bif decide (x3 < 0) then some (V.tup [V.bool true]) else need (O.R 0 8 [V.sl y16 y17, V.int .i64 x3]) fun x4 => asTup (some x4) fun x5 => PI.asInt .i64 x5[0]? fun x6 => bif decide (x6 < 0) then some
 (V.tup [V.bool true]) else need (O.R 0 9 [V.agg [V.int .i64 y18, V.int .i64 y19, V.sl y20 y21, V.sl y22 y23, V.sl y24 y25, V.sl y26 y27], V.int .i64 x6]) fun x7 => asTup (some x7) fun x8 => PI.asInt
 .i64 x8[0]? fun x9 => bif decide (x9 < 0) then some (V.tup [V.bool true]) else need (O.R 0 9 [V.agg [V.int .i64 y28, V.int .i64 y29, V.sl y30 y31, V.sl y32 y33, V.sl y34 y35, V.sl y36 y37], V.int .i64
 x9]) fun x10 => asTup (some x10) fun x11 => PI.asInt .i64 x11[0]? fun x12 => bif decide (x12 < 0) then some (V.tup [V.bool true]) else need (O.R 0 11 [V.agg [V.int .i64 y1, V.int .i64 y2, V.sl y3 y4,
 V.sl y5 y6, V.sl y7 y8, V.sl y9 y10, V.int .i64 y11, V.bool y12, V.sl y13 y14, V.int .i64 y15]]) fun x13 => asTup (some x13) fun x14 => PI.asInt .i64 x14[0]? fun x15 => PI.asInt .i64 x14[1]? fun x16
 => asOsl x14[2]? fun x17 x18 => asOsl x14[3]? fun x19 x20 => asOsl x14[4]? fun x21 x22 => asOsl x14[5]? fun x23 x24 => PI.asInt .i64 x14[6]? fun x25 => PI.asBool x14[7]? fun x26 => asOsl x14[8]? fun
 x27 x28 => PI.asInt .i64 x14[9]? fun x29 => need (O.R 0 12 [V.sl y16 y17]) fun x30 => asTup (some x30) fun x31 => asOsl x31[0]? fun x32 x33 => need (O.R 0 13 [V.agg [V.int .i64 y18, V.int .i64 y19,
 V.sl y20 y21, V.sl y22 y23, V.sl y24 y25, V.sl y26 y27]]) fun x34 => asTup (some x34) fun x35 => PI.asInt .i64 x35[0]? fun x36 => PI.asInt .i64 x35[1]? fun x37 => asOsl x35[2]? fun x38 x39 => asOsl
 x35[3]? fun x40 x41 => asOsl x35[4]? fun x42 x43 => asOsl x35[5]? fun x44 x45 => need (O.R 0 13 [V.agg [V.int .i64 y28, V.int .i64 y29, V.sl y30 y31, V.sl y32 y33, V.sl y34 y35, V.sl y36 y37]]) fun
 x46 => asTup (some x46) fun x47 => PI.asInt .i64 x47[0]? fun x48 => PI.asInt .i64 x47[1]? fun x49 => asOsl x47[2]? fun x50 x51 => asOsl x47[3]? fun x52 x53 => asOsl x47[4]? fun x54 x55 => asOsl
 x47[5]? fun x56 x57 => need (O.R 0 10 [V.agg [V.int .i64 x15, V.int .i64 x16, V.sl x17 x18, V.sl x19 x20, V.sl x21 x22, V.sl x23 (bareL x24), V.int .i64 x25, V.bool x26, V.sl x27 (bareL x28), V.int
 .i64 x29], V.sl x32 (bareL x33), V.agg [V.int .i64 x36, V.int .i64 x37, V.sl x38 x39, V.sl x40 x41, V.sl x42 x43, V.sl x44 (bareL x45)], V.agg [V.int .i64 x48, V.int .i64 x49, V.sl x50 x51, V.sl x52
 x53, V.sl x54 x55, V.sl x56 (bareL x57)], V.int .i64 y38]) fun x58 => asTup (some x58) fun x59 => PI.asInt .i64 x59[0]? fun x60 => PI.asInt .i64 x59[1]? fun x61 => PI.asInt .i64 x59[2]? fun x62 =>
 asSl x59[3]? fun x63 x64 => asSl x59[4]? fun x65 x66 => asSl x59[5]? fun x67 x68 => asSl x59[6]? fun x69 x70 => PI.asInt .i64 x59[7]? fun x71 => PI.asBool x59[8]? fun x72 => asSl x59[9]? fun x73 x74
 => PI.asInt .i64 x59[10]? fun x75 => need (O.R 0 11 [V.agg [V.int .i64 y1, V.int .i64 y2, V.sl y3 y4, V.sl y5 y6, V.sl y7 y8, V.sl y9 y10, V.int .i64 y11, V.bool y12, V.sl y13 y14, V.int .i64 y15]])
 fun x76 => asTup (some x76) fun x77 => PI.asInt .i64 x77[0]? fun x78 => PI.asInt .i64 x77[1]? fun x79 => asOsl x77[2]? fun x80 x81 => asOsl x77[3]? fun x82 x83 => asOsl x77[4]? fun x84 x85 => asOsl
 x77[5]? fun x86 x87 => PI.asInt .i64 x77[6]? fun x88 => PI.asBool x77[7]? fun x89 => asOsl x77[8]? fun x90 x91 => PI.asInt .i64 x77[9]? fun x92 => need (O.R 0 12 [V.sl y16 y17]) fun x93 => asTup (some
 x93) fun x94 => asOsl x94[0]? fun x95 x96 => need (O.R 0 13 [V.agg [V.int .i64 y18, V.int .i64 y19, V.sl y20 y21, V.sl y22 y23, V.sl y24 y25, V.sl y26 y27]]) fun x97 => asTup (some x97) fun x98 =>
 PI.asInt .i64 x98[0]? fun x99 => PI.asInt .i64 x98[1]? fun x100 => asOsl x98[2]? fun x101 x102 => asOsl x98[3]? fun x103 x104 => asOsl x98[4]? fun x105 x106 => asOsl x98[5]? fun x107 x108 => need (O.R
 0 13 [V.agg [V.int .i64 y28, V.int .i64 y29, V.sl y30 y31, V.sl y32 y33, V.sl y34 y35, V.sl y36 y37]]) fun x109 => asTup (some x109) fun x110 => PI.asInt .i64 x110[0]? fun x111 => PI.asInt .i64
 x110[1]? fun x112 => asOsl x110[2]? fun x113 x114 => asOsl x110[3]? fun x115 x116 => asOsl x110[4]? fun x117 x118 => asOsl x110[5]? fun x119 x120 => need (O.R 0 14 [V.agg [V.int .i64 x78, V.int .i64
 x79, V.sl x80 x81, V.sl x82 x83, V.sl x84 x85, V.sl x86 (bareL x87), V.int .i64 x88, V.bool x89, V.sl x90 (bareL x91), V.int .i64 x92], V.sl x95 (bareL x96), V.agg [V.int .i64 x99, V.int .i64 x100,
 V.sl x101 x102, V.sl x103 x104, V.sl x105 x106, V.sl x107 (bareL x108)], V.agg [V.int .i64 x111, V.int .i64 x112, V.sl x113 x114, V.sl x115 x116, V.sl x117 x118, V.sl x119 (bareL x120)], V.int .i64
 y38]) fun x121 => asTup (some x121) fun x122 => PI.asInt .i64 x122[0]? fun x123 => PI.asInt .i64 x122[1]? fun x124 => PI.asInt .i64 x122[2]? fun x125 => asOsl x122[3]? fun x126 x127 => asOsl x122[4]?
 fun x128 x129 => asOsl x122[5]? fun x130 x131 => asOsl x122[6]? fun x132 x133 => PI.asInt .i64 x122[7]? fun x134 => PI.asBool x122[8]? fun x135 => asOsl x122[9]? fun x136 x137 => PI.asInt .i64
 x122[10]? fun x138 => need (O.R 0 15 [V.agg [V.int .i64 x123, V.int .i64 x124, V.int .i64 x125, V.sl x126 x127, V.sl x128 x129, V.sl x130 x131, V.sl x132 (bareL x133), V.int .i64 x134, V.bool x135,
 V.sl x136 (bareL x137), V.int .i64 x138], V.agg [V.int .i64 x60, V.int .i64 x61, V.int .i64 x62, V.sl x63 x64, V.sl x65 x66, V.sl x67 x68, V.sl x69 x70, V.int .i64 x71, V.bool x72, V.sl x73 x74, V.int
 .i64 x75]]) fun x139 => asTup (some x139) fun x140 => PI.asBool x140[0]? fun x141 => bif !x141 then some (V.tup [V.bool false]) else need (O.R 0 11 [V.agg [V.int .i64 y1, V.int .i64 y2, V.sl y3 y4,
 V.sl y5 y6, V.sl y7 y8, V.sl y9 y10, V.int .i64 y11, V.bool y12, V.sl y13 y14, V.int .i64 y15]]) fun x142 => asTup (some x142) fun x143 => PI.asInt .i64 x143[0]? fun x144 => PI.asInt .i64 x143[1]? fun
 x145 => asOsl x143[2]? fun x146 x147 => asOsl x143[3]? fun x148 x149 => asOsl x143[4]? fun x150 x151 => asOsl x143[5]? fun x152 x153 => PI.asInt .i64 x143[6]? fun x154 => PI.asBool x143[7]? fun x155
 => asOsl x143[8]? fun x156 x157 => PI.asInt .i64 x143[9]? fun x158 => need (O.R 0 16 [V.agg [V.int .i64 x78, V.int .i64 x79, V.sl x80 x81, V.sl x82 x83, V.sl x84 x85, V.sl x86 (bareL x87), V.int .i64
 x88, V.bool x89, V.sl x90 (bareL x91), V.int .i64 x92], V.agg [V.int .i64 x144, V.int .i64 x145, V.sl x146 x147, V.sl x148 x149, V.sl x150 x151, V.sl x152 (bareL x153), V.int .i64 x154, V.bool x155,
 V.sl x156 (bareL x157), V.int .i64 x158]]) fun x159 => asTup (some x159) fun x160 => PI.asBool x160[0]? fun x161 => bif !x161 then some (V.tup [V.bool false]) else need (O.R 0 12 [V.sl y16 y17]) fun
 x162 => asTup (some x162) fun x163 => asOsl x163[0]? fun x164 x165 => need (O.R 0 17 [V.sl x95 (bareL x96), V.sl x164 (bareL x165)]) fun x166 => asTup (some x166) fun x167 => PI.asBool x167[0]? fun
 x168 => bif !x168 then some (V.tup [V.bool false]) else need (O.R 0 13 [V.agg [V.int .i64 y18, V.int .i64 y19, V.sl y20 y21, V.sl y22 y23, V.sl y24 y25, V.sl y26 y27]]) fun x169 => asTup (some x169)
 fun x170 => PI.asInt .i64 x170[0]? fun x171 => PI.asInt .i64 x170[1]? fun x172 => asOsl x170[2]? fun x173 x174 => asOsl x170[3]? fun x175 x176 => asOsl x170[4]? fun x177 x178 => asOsl x170[5]? fun
 x179 x180 => need (O.R 0 18 [V.agg [V.int .i64 x99, V.int .i64 x100, V.sl x101 x102, V.sl x103 x104, V.sl x105 x106, V.sl x107 (bareL x108)], V.agg [V.int .i64 x171, V.int .i64 x172, V.sl x173 x174,
 V.sl x175 x176, V.sl x177 x178, V.sl x179 (bareL x180)]]) fun x181 => asTup (some x181) fun x182 => PI.asBool x182[0]? fun x183 => bif !x183 then some (V.tup [V.bool false]) else need (O.R 0 13 [V.agg
 [V.int .i64 y28, V.int .i64 y29, V.sl y30 y31, V.sl y32 y33, V.sl y34 y35, V.sl y36 y37]]) fun x184 => asTup (some x184) fun x185 => PI.asInt .i64 x185[0]? fun x186 => PI.asInt .i64 x185[1]? fun x187
 => asOsl x185[2]? fun x188 x189 => asOsl x185[3]? fun x190 x191 => asOsl x185[4]? fun x192 x193 => asOsl x185[5]? fun x194 x195 => need (O.R 0 18 [V.agg [V.int .i64 x111, V.int .i64 x112, V.sl x113
 x114, V.sl x115 x116, V.sl x117 x118, V.sl x119 (bareL x120)], V.agg [V.int .i64 x186, V.int .i64 x187, V.sl x188 x189, V.sl x190 x191, V.sl x192 x193, V.sl x194 (bareL x195)]]) fun x196 => asTup
 (some x196) fun x197 => PI.asBool x197[0]? fun x198 => bif !x198 then some (V.tup [V.bool false]) else need (O.W 0 19 [0, 1, 2, 3, 4] [V.agg [V.int .i64 x78, V.int .i64 x79, V.ref 0, V.ref 1, V.ref 2,
 V.ref 3, V.int .i64 x88, V.bool x89, V.ref 4, V.int .i64 x92], V.int .i64 1] [Ob.row 5 x80 x81 false, Ob.row 5 x82 x83 false, Ob.row 5 x84 x85 false, Ob.nrow [] 78 x86 x87, Ob.nrow [] 22 x90 x91]) fun
 x199 => asTup (some x199) fun x200 => PI.asInt .i64 x200[0]? fun x201 => asOsl x200[1]? fun x202 x203 => asOsl x200[2]? fun x204 x205 => asOsl x200[3]? fun x206 x207 => asOsl x200[4]? fun x208 x209 =>
 asOsl x200[5]? fun x210 x211 => need (O.W 0 20 [0] [V.ref 0, V.int .i64 x201] [Ob.nrow [] 78 x95 x96]) fun x212 => asTup (some x212) fun x213 => PI.asInt .i64 x213[0]? fun x214 => asOsl x213[1]? fun
 x215 x216 => need (O.W 0 21 [0, 1, 2, 3] [V.agg [V.int .i64 x99, V.int .i64 x100, V.ref 0, V.ref 1, V.ref 2, V.ref 3], V.int .i64 x214] [Ob.row 5 x101 x102 false, Ob.row 5 x103 x104 false, Ob.row 5
 x105 x106 false, Ob.nrow [] 110 x107 x108]) fun x217 => asTup (some x217) fun x218 => PI.asInt .i64 x218[0]? fun x219 => asOsl x218[1]? fun x220 x221 => asOsl x218[2]? fun x222 x223 => asOsl x218[3]?
 fun x224 x225 => asOsl x218[4]? fun x226 x227 => need (O.W 0 21 [0, 1, 2, 3] [V.agg [V.int .i64 x111, V.int .i64 x112, V.ref 0, V.ref 1, V.ref 2, V.ref 3], V.int .i64 x219] [Ob.row 5 x113 x114 false,
 Ob.row 5 x115 x116 false, Ob.row 5 x117 x118 false, Ob.nrow [] 110 x119 x120]) fun x228 => asTup (some x228) fun x229 => PI.asInt .i64 x229[0]? fun x230 => asOsl x229[1]? fun x231 x232 => asOsl
 x229[2]? fun x233 x234 => asOsl x229[3]? fun x235 x236 => asOsl x229[4]? fun x237 x238 => bif decide (x230 < 0) then some (V.tup [V.bool false]) else need (O.R 0 15 [V.agg [V.int .i64 x123, V.int .i64
 x124, V.int .i64 x125, V.sl x126 x127, V.sl x128 x129, V.sl x130 x131, V.sl x132 (bareL x133), V.int .i64 x134, V.bool x135, V.sl x136 (bareL x137), V.int .i64 x138], V.agg [V.int .i64 x60, V.int .i64
 x61, V.int .i64 x62, V.sl x63 x64, V.sl x65 x66, V.sl x67 x68, V.sl x69 x70, V.int .i64 x71, V.bool x72, V.sl x73 x74, V.int .i64 x75]]) fun x239 => asTup (some x239) fun x240 => PI.asBool x240[0]?
 fun x241 => bif !x241 then some (V.tup [V.bool false]) else need (O.W 0 22 [0, 1, 2, 3, 4] [V.agg [V.int .i64 x123, V.int .i64 x124, V.int .i64 x125, V.ref 0, V.ref 1, V.ref 2, V.ref 3, V.int .i64
 x134, V.bool x135, V.ref 4, V.int .i64 x138], V.int .i64 1] [Ob.row 5 x126 x127 false, Ob.row 5 x128 x129 false, Ob.row 5 x130 x131 false, Ob.nrow [] 78 x132 x133, Ob.nrow [] 22 x136 x137]) fun x242
 => asTup (some x242) fun x243 => PI.asInt .i64 x243[0]? fun x244 => asOsl x243[1]? fun x245 x246 => asOsl x243[2]? fun x247 x248 => asOsl x243[3]? fun x249 x250 => asOsl x243[4]? fun x251 x252 =>
 asOsl x243[5]? fun x253 x254 => need (O.R 0 23 [V.agg [V.int .i64 x123, V.int .i64 x124, V.int .i64 x125, V.sl x245 x246, V.sl x247 x248, V.sl x249 x250, V.sl x251 (bareL x252), V.int .i64 x134,
 V.bool x135, V.sl x253 (bareL x254), V.int .i64 x138], V.int .i64 1]) fun x255 => asTup (some x255) fun x256 => PI.asInt .i64 x256[0]? fun x257 => bif decide (x257 < 0) then some (V.tup [V.bool
 false]) else bif x257 != x244 then some (V.tup [V.bool false]) else need (O.R 0 11 [V.agg [V.int .i64 y1, V.int .i64 y2, V.sl y3 y4, V.sl y5 y6, V.sl y7 y8, V.sl y9 y10, V.int .i64 y11, V.bool y12,
 V.sl y13 y14, V.int .i64 y15]]) fun x258 => asTup (some x258) fun x259 => PI.asInt .i64 x259[0]? fun x260 => PI.asInt .i64 x259[1]? fun x261 => asOsl x259[2]? fun x262 x263 => asOsl x259[3]? fun x264
 x265 => asOsl x259[4]? fun x266 x267 => asOsl x259[5]? fun x268 x269 => PI.asInt .i64 x259[6]? fun x270 => PI.asBool x259[7]? fun x271 => asOsl x259[8]? fun x272 x273 => PI.asInt .i64 x259[9]? fun
 x274 => need (O.R 0 12 [V.sl y16 y17]) fun x275 => asTup (some x275) fun x276 => asOsl x276[0]? fun x277 x278 => need (O.R 0 13 [V.agg [V.int .i64 y18, V.int .i64 y19, V.sl y20 y21, V.sl y22 y23, V.sl
 y24 y25, V.sl y26 y27]]) fun x279 => asTup (some x279) fun x280 => PI.asInt .i64 x280[0]? fun x281 => PI.asInt .i64 x280[1]? fun x282 => asOsl x280[2]? fun x283 x284 => asOsl x280[3]? fun x285 x286 =>
 asOsl x280[4]? fun x287 x288 => asOsl x280[5]? fun x289 x290 => need (O.R 0 13 [V.agg [V.int .i64 y28, V.int .i64 y29, V.sl y30 y31, V.sl y32 y33, V.sl y34 y35, V.sl y36 y37]]) fun x291 => asTup (some
 x291) fun x292 => PI.asInt .i64 x292[0]? fun x293 => PI.asInt .i64 x292[1]? fun x294 => asOsl x292[2]? fun x295 x296 => asOsl x292[3]? fun x297 x298 => asOsl x292[4]? fun x299 x300 => asOsl x292[5]?
 fun x301 x302 => need (O.R 0 14 [V.agg [V.int .i64 x260, V.int .i64 x261, V.sl x262 x263, V.sl x264 x265, V.sl x266 x267, V.sl x268 (bareL x269), V.int .i64 x270, V.bool x271, V.sl x272 (bareL x273),
 V.int .i64 x274], V.sl x277 (bareL x278), V.agg [V.int .i64 x281, V.int .i64 x282, V.sl x283 x284, V.sl x285 x286, V.sl x287 x288, V.sl x289 (bareL x290)], V.agg [V.int .i64 x293, V.int .i64 x294,
 V.sl x295 x296, V.sl x297 x298, V.sl x299 x300, V.sl x301 (bareL x302)], V.int .i64 y38]) fun x303 => asTup (some x303) fun x304 => PI.asInt .i64 x304[0]? fun x305 => PI.asInt .i64 x304[1]? fun x306
 => PI.asInt .i64 x304[2]? fun x307 => asOsl x304[3]? fun x308 x309 => asOsl x304[4]? fun x310 x311 => asOsl x304[5]? fun x312 x313 => asOsl x304[6]? fun x314 x315 => PI.asInt .i64 x304[7]? fun x316 =>
 PI.asBool x304[8]? fun x317 => asOsl x304[9]? fun x318 x319 => PI.asInt .i64 x304[10]? fun x320 => need (O.R 0 15 [V.agg [V.int .i64 x305, V.int .i64 x306, V.int .i64 x307, V.sl x308 x309, V.sl x310
 x311, V.sl x312 x313, V.sl x314 (bareL x315), V.int .i64 x316, V.bool x317, V.sl x318 (bareL x319), V.int .i64 x320], V.agg [V.int .i64 x60, V.int .i64 x61, V.int .i64 x62, V.sl x63 x64, V.sl x65 x66,
 V.sl x67 x68, V.sl x69 x70, V.int .i64 x71, V.bool x72, V.sl x73 x74, V.int .i64 x75]]) fun x321 => asTup (some x321) fun x322 => PI.asBool x322[0]? fun x323 => bif !x323 then some (V.tup [V.bool
 false]) else need (O.R 0 23 [V.agg [V.int .i64 x123, V.int .i64 x124, V.int .i64 x125, V.sl x245 x246, V.sl x247 x248, V.sl x249 x250, V.sl x251 (bareL x252), V.int .i64 x134, V.bool x135, V.sl x253
 (bareL x254), V.int .i64 x138], V.int .i64 1]) fun x324 => asTup (some x324) fun x325 => PI.asInt .i64 x325[0]? fun x326 => bif decide (x326 < 0) then some (V.tup [V.bool false]) else bif x326 != x244
 then some (V.tup [V.bool false]) else some (V.tup [V.bool true])
theorem E3 (y1 y2 y3 y4 y5 y6 y7 y8 y9 y10 y11 y12 y13 y14 y15 y16 y17 y18 y19 y20 y21 y22 y23 y24 y25 y26 y27 y28 y29 y30) (y31
 : List V) (y32 : Nat) (y33 : List V) (y34 : Nat) (y35 : List V) (y36 : Nat) (y37 : List V) (y38 : Int) {r : V} (h : T3 (orcE C) 0 0 0 0 y1 y2 y3 y4 y5 y6 y7 y8 y9 y10 y11 y12 y13 y14 y15 y16 y17 y18
 y19 y20 y21 y22 y23 y24 y25 y26 y27 y28 y29 y30 y31 y32 y33 y34 y35 y36 y37 y38 = some r) : runE C 3 [V.agg [V.int .i64 y1, V.int .i64 y2, V.sl y3 y4, V.sl y5 y6, V.sl y7 y8, V.sl y9 y10, V.int .i64
 y11, V.bool y12, V.sl y13 y14, V.int .i64 y15], V.sl y16 y17, V.agg [V.int .i64 y18, V.int .i64 y19, V.sl y20 y21, V.sl y22 y23, V.sl y24 y25, V.sl y26 y27], V.agg [V.int .i64 y28, V.int .i64 y29,
 V.sl y30 y31, V.sl y32 y33, V.sl y34 y35, V.sl y36 y37], V.int .i64 y38] = some r := ofR (j := 1) (F := fun s => T3 (orc C s.k) s.k s.m 0 0 y1 y2 y3 y4 y5 y6 y7 y8 y9 y10 y11 y12 y13 y14 y15 y16 y17
 y18 y19 y20 y21 y22 y23 y24 y25 y26 y27 y28 y29 y30 y31 y32 y33 y34 y35 y36 y37 y38) (fun _ => by kernel_rfl) (by
  unfold T3
  repeat' first | (with_reducible first | exact cC | refine cN cR fun _ => ?_ | refine cN cQ fun _ => ?_ | refine cT fun _ => ?_ | refine cI fun _ => ?_ | refine cF ?_ ?_ | refine cB fun _ => ?_ | refine cL fun _ _ => ?_ | refine cO fun _ _ => ?_ | refine cN cC fun _ => ?_ | exact cR | exact cQ)) h

noncomputable def T7 (O : Orc) (k m q0 q1 : Nat) (y1 y2 : Int) (y3 : Nat) (y4 : List V) (y5 : Nat) (y6 : List V) (y7 : Nat) (y8 : List V) (y9 : Nat) (y10 : List V) (y11 : Int) (y12 : Bool) (y13
 : Nat) (y14 : List V) (y15 : Int) (y16 : Int) : Option V := need (O.R 0 30 [V.agg [V.int .i64 y1, V.int .i64 y2, V.sl y3 y4, V.sl y5 y6, V.sl y7 y8], V.int .i64 y16]) fun x1 => asTup (some x1) fun x2
 => PI.asInt .i64 x2[0]? fun x3 => bif decide (x3 < 0) then some (V.tup [V.int .i64 (-1)]) else need (O.R 0 8 [V.sl y9 y10, V.int .i64 x3]) fun x4 => asTup (some x4) fun x5 => PI.asInt .i64 x5[0]? fun
 x6 => bif decide (x6 < 0) then some (V.tup [V.int .i64 (-1)]) else need (O.R 0 31 [V.sl y13 y14, V.int .i64 x6]) fun x7 => asTup (some x7) fun x8 => PI.asInt .i64 x8[0]? fun x9 => bif decide (x9 < 0)
 then some (V.tup [V.int .i64 (-1)]) else some (V.tup [V.int .i64 x9])
theorem E7 (y1 y2 y3 y4 y5 y6 y7 y8 y9 y10 y11 y12 y13 y14 y15 y16) {r : V} (h : T7 (orcE C) 0 0 0 0 y1 y2 y3 y4 y5 y6 y7 y8 y9 y10 y11 y12 y13 y14 y15 y16 = some r) : runE C 7 [V.agg [V.int .i64 y1, V.int .i64 y2, V.sl y3 y4, V.sl y5 y6, V.sl y7 y8, V.sl
 y9 y10, V.int .i64 y11, V.bool y12, V.sl y13 y14, V.int .i64 y15], V.int .i64 y16] = some r := ofR (j := 1) (F := fun s => T7 (orc C s.k) s.k s.m 0 0 y1 y2 y3 y4 y5 y6 y7 y8 y9 y10 y11 y12 y13 y14 y15
 y16) (fun _ => by kernel_rfl) (by
  unfold T7
  repeat' first | (with_reducible first | exact cC | refine cN cR fun _ => ?_ | refine cT fun _ => ?_ | refine cI fun _ => ?_ | refine cF ?_ ?_ | refine cN cC fun _ => ?_ | exact cR)) h

noncomputable def T8 (O : Orc) (k m q0 q1 : Nat) (y1 : Nat) (y2 : List V) (y3 : Int) : Option V := bif decide (IntKind.i64.wrap (y3 - (↑y1 : Int)) < 0) then some (V.tup [V.int .i64 (-1)]) else O.L 0 8
 0 [true, true, true, false, true] [] k [(0, V.sl y1 y2), (1, V.int .i64 (IntKind.i64.wrap (y3 - (↑y1 : Int)))), (5, V.int .i64 0)] []
theorem E8 (y1 y2 y3) {r : V} (h : T8 (orcE C) 0 0 0 0 y1 y2 y3 = some r) : runE C 8 [V.sl y1 y2, V.int .i64 y3] = some r := ofR (j := 1) (F := fun s => T8 (orc C s.k) s.k s.m
 0 0 y1 y2 y3) (fun _ => by kernel_rfl) (by
  unfold T8
  repeat' first | (with_reducible first | exact cC | refine cF ?_ ?_) | exact cD0 gK) h

noncomputable def T9 (O : Orc) (k m q0 q1 : Nat) (y1 y2 : Int) (y3 : Nat) (y4 : List V) (y5 : Nat) (y6 : List V) (y7 : Nat) (y8 : List V) (y9 : Nat) (y10 : List V) (y11 : Int) : Option V :=
 need (O.R 0 30 [V.agg [V.int .i64 y1, V.int .i64 y2, V.sl y3 y4, V.sl y5 y6, V.sl y7 y8], V.int .i64 y11]) fun x1 => asTup (some x1) fun x2 => PI.asInt .i64 x2[0]? fun x3 => bif decide (x3 < 0) then
 some (V.tup [V.int .i64 (-1)]) else need (O.R 0 33 [V.sl y9 y10, V.int .i64 x3]) fun x4 => asTup (some x4) fun x5 => PI.asInt .i64 x5[0]? fun x6 => bif decide (x6 < 0) then some (V.tup [V.int .i64
 (-1)]) else some (V.tup [V.int .i64 x6])
theorem E9 (y1 y2 y3 y4 y5 y6 y7 y8 y9 y10 y11) {r : V} (h : T9 (orcE C) 0 0 0 0 y1 y2 y3 y4 y5 y6 y7
 y8 y9 y10 y11 = some r) : runE C 9 [V.agg [V.int .i64 y1, V.int .i64 y2, V.sl y3 y4, V.sl y5 y6, V.sl y7 y8, V.sl y9 y10], V.int .i64 y11] = some r := ofR (j := 1) (F := fun s => T9 (orc C s.k) s.k
 s.m 0 0 y1 y2 y3 y4 y5 y6 y7 y8 y9 y10 y11) (fun _ => by kernel_rfl) (by
  unfold T9
  repeat' first | (with_reducible first | exact cC | refine cN cR fun _ => ?_ | refine cT fun _ => ?_ | refine cI fun _ => ?_ | refine cF ?_ ?_ | refine cN cC fun _ => ?_ | exact cR)) h

noncomputable def T11 (O : Orc) (k m q0 q1 : Nat) (y1 y2 : Int) (y3 : Nat) (y4 : List V) (y5 : Nat) (y6 : List V) (y7 : Nat) (y8 : List V) (y9 : Nat) (y10 : List V) (y11 : Int) (y12 : Bool) (y13 : Nat) (y14 : List V) (y15 : Int) : Option V := need (O.R 0 42 [V.agg [V.int .i64 y1, V.int .i64 y2, V.sl y3 y4, V.sl y5 y6, V.sl y7 y8]]) fun x1 => asTup (some x1) fun x2 => PI.asInt .i64 x2[0]?
 fun x3 => PI.asInt .i64 x2[1]? fun x4 => asOsl x2[2]? fun x5 x6 => asOsl x2[3]? fun x7 x8 => asOsl x2[4]? fun x9 x10 => need (O.R 0 12 [V.sl y9 y10]) fun x11 => asTup (some x11) fun x12 => asOsl
 x12[0]? fun x13 x14 => need (O.R 0 43 [V.sl y13 y14]) fun x15 => asTup (some x15) fun x16 => asOsl x16[0]? fun x17 x18 => must (false || x6.all flatV) (must (false || x8.all flatV) (must (false ||
 x10.all flatV) (some (V.tup [V.int .i64 x3, V.int .i64 x4, V.osl x5 x6, V.osl x7 x8, V.osl x9 x10, V.osl x13 x14, V.int .i64 y11, V.bool y12, V.osl x17 x18, V.int .i64 y15]))))
theorem E11 (y1 y2 y3 y4 y5 y6 y7 y8 y9 y10 y11 y12 y13 y14 y15) {r
 : V} (h : T11 (orcE C) 0 0 0 0 y1 y2 y3 y4 y5 y6 y7 y8 y9 y10 y11 y12 y13 y14 y15 = some r) : runE C 11 [V.agg [V.int .i64 y1, V.int .i64 y2, V.sl y3 y4, V.sl y5 y6, V.sl y7 y8, V.sl y9 y10, V.int
 .i64 y11, V.bool y12, V.sl y13 y14, V.int .i64 y15]] = some r := ofR (j := 1) (F := fun s => T11 (orc C s.k) s.k s.m 0 0 y1 y2 y3 y4 y5 y6 y7 y8 y9 y10 y11 y12 y13 y14 y15) (fun _ => by kernel_rfl) (by
  unfold T11
  repeat' first | (with_reducible first | exact cC | refine cN cR fun _ => ?_ | refine cT fun _ => ?_ | refine cI fun _ => ?_ | refine cM ?_ | refine cO fun _ _ => ?_ | refine cN cC fun _ => ?_ | exact cR)) h

noncomputable def T12 (O : Orc) (k m q0 q1 : Nat) (y1 : Nat) (y2 : List V) : Option V := must (decide ((↑y1 : Int) = (↑y1 : Int)) && decide (0 ≤ (↑y1 : Int)) && decide ((↑y1 : Int) ≤ 140737488355328)
 && decide ((↑y1 : Int) * 32 ≤ 140737488355328)) (O.L 0 12 0 [true, true, false, true] [] k [(0, V.sl y1 y2), (3, V.ref 0), (4, V.int .i64 0)] [Ob.nrow [] 78 (↑y1 : Int).toNat (reps (↑y1 : Int).toNat
 [V.nilsl, V.int .i64 0])])
theorem E12 (y1 y2) {r : V} (h : T12 (orcE C) 0 0 0 0 y1 y2 = some r) : runE C 12 [V.sl y1 y2] = some r := ofR (j := 1) (F := fun s => T12 (orc C s.k) s.k s.m 0 0 y1 y2) (fun _ => by
 kernel_rfl) (by
  unfold T12
  repeat' first | (with_reducible first | exact cC | refine cM ?_) | exact cD0 gK) h

noncomputable def T13 (O : Orc) (k m q0 q1 : Nat) (y1 y2 : Int) (y3 : Nat) (y4 : List V) (y5 : Nat) (y6 : List V) (y7 : Nat) (y8 : List V) (y9 : Nat) (y10 : List V) : Option V := need (O.R 0 42
 [V.agg [V.int .i64 y1, V.int .i64 y2, V.sl y3 y4, V.sl y5 y6, V.sl y7 y8]]) fun x1 => asTup (some x1) fun x2 => PI.asInt .i64 x2[0]? fun x3 => PI.asInt .i64 x2[1]? fun x4 => asOsl x2[2]? fun x5 x6 =>
 asOsl x2[3]? fun x7 x8 => asOsl x2[4]? fun x9 x10 => need (O.R 0 45 [V.sl y9 y10]) fun x11 => asTup (some x11) fun x12 => asOsl x12[0]? fun x13 x14 => must (false || x6.all flatV) (must (false ||
 x8.all flatV) (must (false || x10.all flatV) (some (V.tup [V.int .i64 x3, V.int .i64 x4, V.osl x5 x6, V.osl x7 x8, V.osl x9 x10, V.osl x13 x14]))))
theorem E13 (y1 y2 y3 y4 y5 y6 y7 y8 y9 y10) {r : V} (h : T13 (orcE C) 0 0 0 0 y1 y2 y3 y4 y5 y6 y7 y8 y9 y10 =
 some r) : runE C 13 [V.agg [V.int .i64 y1, V.int .i64 y2, V.sl y3 y4, V.sl y5 y6, V.sl y7 y8, V.sl y9 y10]] = some r := ofR (j := 1) (F := fun s => T13 (orc C s.k) s.k s.m 0 0 y1 y2 y3 y4 y5 y6 y7 y8
 y9 y10) (fun _ => by kernel_rfl) (by
  unfold T13
  repeat' first | (with_reducible first | exact cC | refine cN cR fun _ => ?_ | refine cT fun _ => ?_ | refine cI fun _ => ?_ | refine cM ?_ | refine cO fun _ _ => ?_ | refine cN cC fun _ => ?_ | exact cR)) h

noncomputable def T10 (O : Orc) (k m q0 q1 : Nat) (y1 y2 : Int) (y3 : Nat) (y4 : List V) (y5 : Nat) (y6 : List V) (y7 : Nat) (y8 : List V) (y9 : Nat) (y10 : List V) (y11 : Int) (y12 : Bool) (y13 : Nat) (y14 : List V) (y15 : Int) (y16 : Nat) (y17 : List V) (y18 y19 : Int) (y20 : Nat) (y21 : List V) (y22 : Nat) (y23 : List V) (y24 : Nat) (y25 : List V) (y26 : Nat) (y27 : List V) (y28 y29 : Int) (y30 : Nat) (y31 : List V) (y32 : Nat) (y33 : List V) (y34 : Nat) (y35 : List V) (y36 : Nat) (y37 : List V) (y38 : Int) : Option V := need (O.R 0 34 [V.agg [V.int .i64 y1,
 V.int .i64 y2, V.sl y3 y4, V.sl y5 y6, V.sl y7 y8, V.sl y9 y10, V.int .i64 y11, V.bool y12, V.sl y13 y14, V.int .i64 y15]]) fun x1 => asTup (some x1) fun x2 => PI.asInt .i64 x2[0]? fun x3 => bif x3 !=
 0 then some (V.tup [V.int .i64 x3, V.int .i64 0, V.int .i64 0, V.sl 0 [], V.sl 0 [], V.sl 0 [], V.sl 0 [], V.int .i64 0, V.bool false, V.sl 0 [], V.int .i64 0]) else need (O.R 0 35 [V.pin [V.int .i64
 y1, V.int .i64 y2, V.sl y3 y4, V.sl y5 y6, V.sl y7 y8, V.sl y9 y10, V.int .i64 y11, V.bool y12, V.sl y13 y14, V.int .i64 y15] 0, V.int .i64 y38]) fun x4 => asTup (some x4) fun x5 => PI.asBool x5[0]?
 fun x6 => bif x6 then some (V.tup [V.int .i64 10, V.int .i64 0, V.int .i64 0, V.sl 0 [], V.sl 0 [], V.sl 0 [], V.sl 0 [], V.int .i64 0, V.bool false, V.sl 0 [], V.int .i64 0]) else need (O.R 0 36
 [V.sl y16 y17, V.agg [V.int .i64 y18, V.int .i64 y19, V.sl y20 y21, V.sl y22 y23, V.sl y24 y25, V.sl y26 y27]]) fun x7 => asTup (some x7) fun x8 => PI.asInt .i64 x8[0]? fun x9 => bif x9 != 0 then some
 (V.tup [V.int .i64 x9, V.int .i64 0, V.int .i64 0, V.sl 0 [], V.sl 0 [], V.sl 0 [], V.sl 0 [], V.int .i64 0, V.bool false, V.sl 0 [], V.int .i64 0]) else need (O.R 0 36 [V.sl y16 y17, V.agg [V.int
 .i64 y28, V.int .i64 y29, V.sl y30 y31, V.sl y32 y33, V.sl y34 y35, V.sl y36 y37]]) fun x10 => asTup (some x10) fun x11 => PI.asInt .i64 x11[0]? fun x12 => bif x12 != 0 then some (V.tup [V.int .i64
 x12, V.int .i64 0, V.int .i64 0, V.sl 0 [], V.sl 0 [], V.sl 0 [], V.sl 0 [], V.int .i64 0, V.bool false, V.sl 0 [], V.int .i64 0]) else bif y18 != y28 then some (V.tup [V.int .i64 1, V.int .i64 0,
 V.int .i64 0, V.sl 0 [], V.sl 0 [], V.sl 0 [], V.sl 0 [], V.int .i64 0, V.bool false, V.sl 0 [], V.int .i64 0]) else need (O.R 0 38 [V.agg [V.int .i64 y18, V.int .i64 y19, V.sl y20 y21, V.sl y22 y23,
 V.sl y24 y25]]) fun x13 => asTup (some x13) fun x14 => asSl x14[0]? fun x15 x16 => need (O.R 0 38 [V.agg [V.int .i64 y28, V.int .i64 y29, V.sl y30 y31, V.sl y32 y33, V.sl y34 y35]]) fun x17 => asTup
 (some x17) fun x18 => asSl x18[0]? fun x19 x20 => need (O.R 0 37 [V.sl x15 x16, V.sl x19 x20]) fun x21 => asTup (some x21) fun x22 => PI.asBool x22[0]? fun x23 => bif x23 then some (V.tup [V.int .i64
 1, V.int .i64 0, V.int .i64 0, V.sl 0 [], V.sl 0 [], V.sl 0 [], V.sl 0 [], V.int .i64 0, V.bool false, V.sl 0 [], V.int .i64 0]) else need (O.R 0 39 [V.sl y16 y17, V.agg [V.int .i64 y18, V.int .i64
 y19, V.sl y20 y21, V.sl y22 y23, V.sl y24 y25, V.sl y26 y27]]) fun x24 => asTup (some x24) fun x25 => PI.asBool x25[0]? fun x26 => bif !x26 then some (V.tup [V.int .i64 6, V.int .i64 0, V.int .i64 0,
 V.sl 0 [], V.sl 0 [], V.sl 0 [], V.sl 0 [], V.int .i64 0, V.bool false, V.sl 0 [], V.int .i64 0]) else need (O.R 0 39 [V.sl y16 y17, V.agg [V.int .i64 y28, V.int .i64 y29, V.sl y30 y31, V.sl y32 y33,
 V.sl y34 y35, V.sl y36 y37]]) fun x27 => asTup (some x27) fun x28 => PI.asBool x28[0]? fun x29 => bif !x29 then some (V.tup [V.int .i64 6, V.int .i64 0, V.int .i64 0, V.sl 0 [], V.sl 0 [], V.sl 0 [],
 V.sl 0 [], V.int .i64 0, V.bool false, V.sl 0 [], V.int .i64 0]) else need (O.R 0 40 [V.pin [V.int .i64 y1, V.int .i64 y2, V.sl y3 y4, V.sl y5 y6, V.sl y7 y8, V.sl y9 y10, V.int .i64 y11, V.bool y12,
 V.sl y13 y14, V.int .i64 y15] 0, V.sl y16 y17, V.agg [V.int .i64 y18, V.int .i64 y19, V.sl y20 y21, V.sl y22 y23, V.sl y24 y25, V.sl y26 y27]]) fun x30 => asTup (some x30) fun x31 => PI.asBool x31[0]?
 fun x32 => bif !x32 then some (V.tup [V.int .i64 6, V.int .i64 0, V.int .i64 0, V.sl 0 [], V.sl 0 [], V.sl 0 [], V.sl 0 [], V.int .i64 0, V.bool false, V.sl 0 [], V.int .i64 0]) else need (O.R 0 40
 [V.pin [V.int .i64 y1, V.int .i64 y2, V.sl y3 y4, V.sl y5 y6, V.sl y7 y8, V.sl y9 y10, V.int .i64 y11, V.bool y12, V.sl y13 y14, V.int .i64 y15] 0, V.sl y16 y17, V.agg [V.int .i64 y28, V.int .i64 y29,
 V.sl y30 y31, V.sl y32 y33, V.sl y34 y35, V.sl y36 y37]]) fun x33 => asTup (some x33) fun x34 => PI.asBool x34[0]? fun x35 => bif !x35 then some (V.tup [V.int .i64 6, V.int .i64 0, V.int .i64 0, V.sl
 0 [], V.sl 0 [], V.sl 0 [], V.sl 0 [], V.int .i64 0, V.bool false, V.sl 0 [], V.int .i64 0]) else need (O.R 0 41 [V.agg [V.int .i64 y1, V.int .i64 y2, V.sl y3 y4, V.sl y5 y6, V.sl y7 y8, V.sl y9 y10,
 V.int .i64 y11, V.bool y12, V.sl y13 y14, V.int .i64 y15]]) fun x36 => asTup (some x36) fun x37 => PI.asInt .i64 x37[0]? fun x38 => PI.asInt .i64 x37[1]? fun x39 => asSl x37[2]? fun x40 x41 => asSl
 x37[3]? fun x42 x43 => asSl x37[4]? fun x44 x45 => asSl x37[5]? fun x46 x47 => PI.asInt .i64 x37[6]? fun x48 => PI.asBool x37[7]? fun x49 => asSl x37[8]? fun x50 x51 => PI.asInt .i64 x37[9]? fun x52
 => some (V.tup [V.int .i64 0, V.int .i64 x38, V.int .i64 x39, V.sl x40 x41, V.sl x42 x43, V.sl x44 x45, V.sl x46 x47, V.int .i64 x48, V.bool true, V.sl x50 x51, V.int .i64 x52])
theorem E10 (y1 y2 y3 y4 y5 y6 y7 y8 y9 y10 y11 y12 y13 y14 y15 y16 y17 y18 y19 y20 y21 y22 y23 y24 y25 y26 y27 y28 y29 y30) (y31
 : List V) (y32 : Nat) (y33 : List V) (y34 : Nat) (y35 : List V) (y36 : Nat) (y37 : List V) (y38 : Int) {r : V} (h : T10 (orcE C) 0 0 0 0 y1 y2 y3 y4 y5 y6 y7 y8 y9 y10 y11 y12 y13 y14 y15 y16 y17 y18
 y19 y20 y21 y22 y23 y24 y25 y26 y27 y28 y29 y30 y31 y32 y33 y34 y35 y36 y37 y38 = some r) : runE C 10 [V.agg [V.int .i64 y1, V.int .i64 y2, V.sl y3 y4, V.sl y5 y6, V.sl y7 y8, V.sl y9 y10, V.int .i64
 y11, V.bool y12, V.sl y13 y14, V.int .i64 y15], V.sl y16 y17, V.agg [V.int .i64 y18, V.int .i64 y19, V.sl y20 y21, V.sl y22 y23, V.sl y24 y25, V.sl y26 y27], V.agg [V.int .i64 y28, V.int .i64 y29,
 V.sl y30 y31, V.sl y32 y33, V.sl y34 y35, V.sl y36 y37], V.int .i64 y38] = some r := ofR (j := 1) (F := fun s => T10 (orc C s.k) s.k s.m 0 0 y1 y2 y3 y4 y5 y6 y7 y8 y9 y10 y11 y12 y13 y14 y15 y16 y17
 y18 y19 y20 y21 y22 y23 y24 y25 y26 y27 y28 y29 y30 y31 y32 y33 y34 y35 y36 y37 y38) (fun _ => by kernel_rfl) (by
  unfold T10
  repeat' first | (with_reducible first | exact cC | refine cN cR fun _ => ?_ | refine cT fun _ => ?_ | refine cI fun _ => ?_ | refine cF ?_ ?_ | refine cB fun _ => ?_ | refine cL fun _ _ => ?_ | refine cN cC fun _ => ?_ | exact cR)) h

noncomputable def T14 (O : Orc) (k m q0 q1 : Nat) (y1 y2 : Int) (y3 : Nat) (y4 : List V) (y5 : Nat) (y6 : List V) (y7 : Nat) (y8 : List V) (y9 : Nat) (y10 : List V) (y11 : Int) (y12 : Bool) (y13 : Nat) (y14 : List V) (y15 : Int) (y16 : Nat) (y17 : List V) (y18 y19 : Int) (y20 : Nat) (y21 : List V) (y22 : Nat) (y23 : List V) (y24 : Nat) (y25 : List V) (y26 : Nat) (y27 : List V) (y28 y29 : Int) (y30 : Nat) (y31 : List V) (y32 : Nat) (y33 : List V) (y34 : Nat) (y35 : List V) (y36 : Nat) (y37 : List V) (y38 : Int) : Option V := need (O.R 0 46 [V.agg [V.int .i64 y1,
 V.int .i64 y2, V.sl y3 y4, V.sl y5 y6, V.sl y7 y8, V.sl y9 y10, V.int .i64 y11, V.bool y12, V.sl y13 y14, V.int .i64 y15]]) fun x1 => asTup (some x1) fun x2 => PI.asInt .i64 x2[0]? fun x3 => bif x3 ==
 0 then need (O.R 0 47 [V.agg [V.int .i64 y1, V.int .i64 y2, V.sl y3 y4, V.sl y5 y6, V.sl y7 y8, V.sl y9 y10, V.int .i64 y11, V.bool y12, V.sl y13 y14, V.int .i64 y15], V.int .i64 y38]) fun x4 => asTup
 (some x4) fun x5 => PI.asBool x5[0]? fun x6 => bif x6 then O.L 0 14 0 [true, true, true, false, true] [] k [(1, V.sl y16 y17), (5, V.ptr 0 0), (7, V.ptr 1 0), (8, V.ptr 2 0), (10, V.ptr 3 0), (11,
 V.int .i64 10), (26, V.ref 9), (27, V.int .i64 2), (28, V.int .i64 0)] [Ob.box 38 [V.int .i64 y1, V.int .i64 y2, V.sl y3 y4, V.sl y5 y6, V.sl y7 y8, V.sl y9 y10, V.int .i64 y11, V.bool y12, V.sl y13
 y14, V.int .i64 y15] false, Ob.box 46 [V.int .i64 y18, V.int .i64 y19, V.sl y20 y21, V.sl y22 y23, V.sl y24 y25, V.sl y26 y27] false, Ob.box 46 [V.int .i64 y28, V.int .i64 y29, V.sl y30 y31, V.sl y32
 y33, V.sl y34 y35, V.sl y36 y37] false, Ob.box 40 [V.int .i64 0, V.int .i64 0, V.int .i64 0, V.ref 4, V.ref 5, V.ref 6, V.ref 7, V.int .i64 0, V.bool false, V.ref 8, V.int .i64 0] false, Ob.row 5 0 []
 false, Ob.row 5 0 [] false, Ob.row 5 0 [] false, Ob.row 78 0 [] false, Ob.nrow [] 22 0 [], Ob.row 46 2 [V.int .i64 y18, V.int .i64 y19, V.sl y20 y21, V.sl y22 y23, V.sl y24 y25, V.sl y26 y27, V.int
 .i64 y28, V.int .i64 y29, V.sl y30 y31, V.sl y32 y33, V.sl y34 y35, V.sl y36 y37] false] else O.L 0 14 0 [true, true, true, false, true] [] k [(1, V.sl y16 y17), (5, V.ptr 0 0), (7, V.ptr 1 0), (8,
 V.ptr 2 0), (10, V.ptr 3 0), (11, V.int .i64 x3), (26, V.ref 9), (27, V.int .i64 2), (28, V.int .i64 0)] [Ob.box 38 [V.int .i64 y1, V.int .i64 y2, V.sl y3 y4, V.sl y5 y6, V.sl y7 y8, V.sl y9 y10,
 V.int .i64 y11, V.bool y12, V.sl y13 y14, V.int .i64 y15] false, Ob.box 46 [V.int .i64 y18, V.int .i64 y19, V.sl y20 y21, V.sl y22 y23, V.sl y24 y25, V.sl y26 y27] false, Ob.box 46 [V.int .i64 y28,
 V.int .i64 y29, V.sl y30 y31, V.sl y32 y33, V.sl y34 y35, V.sl y36 y37] false, Ob.box 40 [V.int .i64 0, V.int .i64 0, V.int .i64 0, V.ref 4, V.ref 5, V.ref 6, V.ref 7, V.int .i64 0, V.bool false,
 V.ref 8, V.int .i64 0] false, Ob.row 5 0 [] false, Ob.row 5 0 [] false, Ob.row 5 0 [] false, Ob.row 78 0 [] false, Ob.nrow [] 22 0 [], Ob.row 46 2 [V.int .i64 y18, V.int .i64 y19, V.sl y20 y21, V.sl
 y22 y23, V.sl y24 y25, V.sl y26 y27, V.int .i64 y28, V.int .i64 y29, V.sl y30 y31, V.sl y32 y33, V.sl y34 y35, V.sl y36 y37] false] else O.L 0 14 0 [true, true, true, false, true] [] k [(1, V.sl y16
 y17), (5, V.ptr 0 0), (7, V.ptr 1 0), (8, V.ptr 2 0), (10, V.ptr 3 0), (11, V.int .i64 x3), (26, V.ref 9), (27, V.int .i64 2), (28, V.int .i64 0)] [Ob.box 38 [V.int .i64 y1, V.int .i64 y2, V.sl y3 y4,
 V.sl y5 y6, V.sl y7 y8, V.sl y9 y10, V.int .i64 y11, V.bool y12, V.sl y13 y14, V.int .i64 y15] false, Ob.box 46 [V.int .i64 y18, V.int .i64 y19, V.sl y20 y21, V.sl y22 y23, V.sl y24 y25, V.sl y26 y27]
 false, Ob.box 46 [V.int .i64 y28, V.int .i64 y29, V.sl y30 y31, V.sl y32 y33, V.sl y34 y35, V.sl y36 y37] false, Ob.box 40 [V.int .i64 0, V.int .i64 0, V.int .i64 0, V.ref 4, V.ref 5, V.ref 6, V.ref
 7, V.int .i64 0, V.bool false, V.ref 8, V.int .i64 0] false, Ob.row 5 0 [] false, Ob.row 5 0 [] false, Ob.row 5 0 [] false, Ob.row 78 0 [] false, Ob.nrow [] 22 0 [], Ob.row 46 2 [V.int .i64 y18, V.int
 .i64 y19, V.sl y20 y21, V.sl y22 y23, V.sl y24 y25, V.sl y26 y27, V.int .i64 y28, V.int .i64 y29, V.sl y30 y31, V.sl y32 y33, V.sl y34 y35, V.sl y36 y37] false]
theorem E14 (y1 y2 y3 y4 y5 y6 y7 y8 y9 y10 y11 y12 y13 y14 y15 y16 y17 y18 y19 y20 y21 y22 y23 y24 y25 y26 y27 y28 y29 y30) (y31
 : List V) (y32 : Nat) (y33 : List V) (y34 : Nat) (y35 : List V) (y36 : Nat) (y37 : List V) (y38 : Int) {r : V} (h : T14 (orcE C) 0 0 0 0 y1 y2 y3 y4 y5 y6 y7 y8 y9 y10 y11 y12 y13 y14 y15 y16 y17 y18
 y19 y20 y21 y22 y23 y24 y25 y26 y27 y28 y29 y30 y31 y32 y33 y34 y35 y36 y37 y38 = some r) : runE C 14 [V.agg [V.int .i64 y1, V.int .i64 y2, V.sl y3 y4, V.sl y5 y6, V.sl y7 y8, V.sl y9 y10, V.int .i64
 y11, V.bool y12, V.sl y13 y14, V.int .i64 y15], V.sl y16 y17, V.agg [V.int .i64 y18, V.int .i64 y19, V.sl y20 y21, V.sl y22 y23, V.sl y24 y25, V.sl y26 y27], V.agg [V.int .i64 y28, V.int .i64 y29,
 V.sl y30 y31, V.sl y32 y33, V.sl y34 y35, V.sl y36 y37], V.int .i64 y38] = some r := ofR (j := 1) (F := fun s => T14 (orc C s.k) s.k s.m 0 0 y1 y2 y3 y4 y5 y6 y7 y8 y9 y10 y11 y12 y13 y14 y15 y16 y17
 y18 y19 y20 y21 y22 y23 y24 y25 y26 y27 y28 y29 y30 y31 y32 y33 y34 y35 y36 y37 y38) (fun _ => by kernel_rfl) (by
  unfold T14
  repeat' first | (with_reducible first | exact cC | refine cN cR fun _ => ?_ | refine cT fun _ => ?_ | refine cI fun _ => ?_ | refine cF ?_ ?_ | refine cB fun _ => ?_ | refine cN cC fun _ => ?_ | exact cR) | exact cD0 gK) h

noncomputable def T15 (O : Orc) (k m q0 q1 : Nat) (y1 y2 y3 : Int) (y4 : Nat) (y5 : List V) (y6 : Nat) (y7 : List V) (y8 : Nat) (y9 : List V) (y10 : Nat) (y11 : List V) (y12 : Int) (y13
 : Bool) (y14 : Nat) (y15 : List V) (y16 : Int) (y17 : Int) (y18 : Int) (y19 : Int) (y20 : Nat) (y21 : List V) (y22 : Nat) (y23 : List V) (y24 : Nat) (y25 : List V) (y26 : Nat) (y27 : List V) (y28 :
 Int) (y29 : Bool) (y30 : Nat) (y31 : List V) (y32 : Int) : Option V := bif y1 != y17 then some (V.tup [V.bool false]) else need (O.R 0 16 [V.agg [V.int .i64 y2, V.int .i64 y3, V.sl y4 y5, V.sl y6 y7,
 V.sl y8 y9, V.sl y10 y11, V.int .i64 y12, V.bool y13, V.sl y14 y15, V.int .i64 y16], V.agg [V.int .i64 y18, V.int .i64 y19, V.sl y20 y21, V.sl y22 y23, V.sl y24 y25, V.sl y26 y27, V.int .i64 y28,
 V.bool y29, V.sl y30 y31, V.int .i64 y32]]) fun x1 => asTup (some x1) fun x2 => PI.asBool x2[0]? fun x3 => bif !x3 then some (V.tup [V.bool false]) else some (V.tup [V.bool true])
theorem E15 (y1 y2 y3 y4 y5 y6 y7 y8 y9 y10 y11 y12 y13 y14 y15 y16 y17 y18 y19 y20 y21 y22 y23 y24 y25 y26 y27 y28 y29 y30) (y31 :
 List V) (y32 : Int) {r : V} (h : T15 (orcE C) 0 0 0 0 y1 y2 y3 y4 y5 y6 y7 y8 y9 y10 y11 y12 y13 y14 y15 y16 y17 y18 y19 y20 y21 y22 y23 y24 y25 y26 y27 y28 y29 y30 y31 y32 = some r) : runE C 15
 [V.agg [V.int .i64 y1, V.int .i64 y2, V.int .i64 y3, V.sl y4 y5, V.sl y6 y7, V.sl y8 y9, V.sl y10 y11, V.int .i64 y12, V.bool y13, V.sl y14 y15, V.int .i64 y16], V.agg [V.int .i64 y17, V.int .i64 y18,
 V.int .i64 y19, V.sl y20 y21, V.sl y22 y23, V.sl y24 y25, V.sl y26 y27, V.int .i64 y28, V.bool y29, V.sl y30 y31, V.int .i64 y32]] = some r := ofR (j := 1) (F := fun s => T15 (orc C s.k) s.k s.m 0 0
 y1 y2 y3 y4 y5 y6 y7 y8 y9 y10 y11 y12 y13 y14 y15 y16 y17 y18 y19 y20 y21 y22 y23 y24 y25 y26 y27 y28 y29 y30 y31 y32) (fun _ => by kernel_rfl) (by
  unfold T15
  repeat' first | (with_reducible first | exact cC | refine cN cR fun _ => ?_ | refine cT fun _ => ?_ | refine cF ?_ ?_ | refine cB fun _ => ?_ | refine cN cC fun _ => ?_ | exact cR)) h

noncomputable def T16 (O : Orc) (k m q0 q1 : Nat) (y1 y2 : Int) (y3 : Nat) (y4 : List V) (y5 : Nat) (y6 : List V) (y7 : Nat) (y8 : List V) (y9 : Nat) (y10 : List V) (y11 : Int) (y12 : Bool) (y13 : Nat) (y14 : List V) (y15 y16 y17 : Int) (y18 : Nat) (y19 : List V) (y20 : Nat) (y21 : List V) (y22 : Nat) (y23 : List V) (y24 : Nat) (y25 : List V) (y26 : Int) (y27 : Bool) (y28
 : Nat) (y29 : List V) (y30 : Int) : Option V := need (O.R 0 53 [V.agg [V.int .i64 y1, V.int .i64 y2, V.sl y3 y4, V.sl y5 y6, V.sl y7 y8], V.agg [V.int .i64 y16, V.int .i64 y17, V.sl y18 y19, V.sl y20
 y21, V.sl y22 y23]]) fun x1 => asTup (some x1) fun x2 => PI.asBool x2[0]? fun x3 => bif !x3 then some (V.tup [V.bool false]) else need (O.R 0 17 [V.sl y9 y10, V.sl y24 y25]) fun x4 => asTup (some x4)
 fun x5 => PI.asBool x5[0]? fun x6 => bif !x6 then some (V.tup [V.bool false]) else bif y11 != y26 then some (V.tup [V.bool false]) else bif !y12 == y27 then some (V.tup [V.bool false]) else need (O.R
 0 54 [V.sl y13 y14, V.sl y28 y29]) fun x7 => asTup (some x7) fun x8 => PI.asBool x8[0]? fun x9 => bif !x9 then some (V.tup [V.bool false]) else bif y15 != y30 then some (V.tup [V.bool false]) else
 some (V.tup [V.bool true])
theorem E16 (y1 y2 y3 y4 y5 y6 y7 y8 y9 y10 y11 y12 y13 y14 y15 y16 y17 y18 y19 y20 y21 y22 y23 y24 y25 y26 y27 y28 y29 y30) {r :
 V} (h : T16 (orcE C) 0 0 0 0 y1 y2 y3 y4 y5 y6 y7 y8 y9 y10 y11 y12 y13 y14 y15 y16 y17 y18 y19 y20 y21 y22 y23 y24 y25 y26 y27 y28 y29 y30 = some r) : runE C 16 [V.agg [V.int .i64 y1, V.int .i64 y2,
 V.sl y3 y4, V.sl y5 y6, V.sl y7 y8, V.sl y9 y10, V.int .i64 y11, V.bool y12, V.sl y13 y14, V.int .i64 y15], V.agg [V.int .i64 y16, V.int .i64 y17, V.sl y18 y19, V.sl y20 y21, V.sl y22 y23, V.sl y24
 y25, V.int .i64 y26, V.bool y27, V.sl y28 y29, V.int .i64 y30]] = some r := ofR (j := 1) (F := fun s => T16 (orc C s.k) s.k s.m 0 0 y1 y2 y3 y4 y5 y6 y7 y8 y9 y10 y11 y12 y13 y14 y15 y16 y17 y18 y19
 y20 y21 y22 y23 y24 y25 y26 y27 y28 y29 y30) (fun _ => by kernel_rfl) (by
  unfold T16
  repeat' first | (with_reducible first | exact cC | refine cN cR fun _ => ?_ | refine cT fun _ => ?_ | refine cF ?_ ?_ | refine cB fun _ => ?_ | refine cN cC fun _ => ?_ | exact cR)) h

noncomputable def T17 (O : Orc) (k m q0 q1 : Nat) (y1 : Nat) (y2 : List V) (y3 : Nat) (y4 : List V) : Option V := bif (↑y1 : Int) != (↑y3 : Int) then some (V.tup [V.bool false]) else O.L 0 17 0 [true,
 true, false, true] [] k [(0, V.sl y1 y2), (1, V.sl y3 y4), (5, V.int .i64 0)] []
theorem E17 (y1 y2 y3 y4) {r : V} (h : T17 (orcE C) 0 0 0 0 y1 y2 y3 y4 = some r) : runE C 17 [V.sl y1 y2, V.sl y3 y4] = some r := ofR (j := 1) (F := fun s => T17
 (orc C s.k) s.k s.m 0 0 y1 y2 y3 y4) (fun _ => by kernel_rfl) (by
  unfold T17
  repeat' first | (with_reducible first | exact cC | refine cF ?_ ?_) | exact cD0 gK) h

noncomputable def T18 (O : Orc) (k m q0 q1 : Nat) (y1 y2 : Int) (y3 : Nat) (y4 : List V) (y5 : Nat) (y6 : List V) (y7 : Nat) (y8 : List V) (y9 : Nat) (y10 : List V) (y11 y12 : Int) (y13
 : Nat) (y14 : List V) (y15 : Nat) (y16 : List V) (y17 : Nat) (y18 : List V) (y19 : Nat) (y20 : List V) : Option V := need (O.R 0 53 [V.agg [V.int .i64 y1, V.int .i64 y2, V.sl y3 y4, V.sl y5 y6, V.sl
 y7 y8], V.agg [V.int .i64 y11, V.int .i64 y12, V.sl y13 y14, V.sl y15 y16, V.sl y17 y18]]) fun x1 => asTup (some x1) fun x2 => PI.asBool x2[0]? fun x3 => bif !x3 then some (V.tup [V.bool false]) else
 need (O.R 0 56 [V.sl y9 y10, V.sl y19 y20]) fun x4 => asTup (some x4) fun x5 => PI.asBool x5[0]? fun x6 => bif !x6 then some (V.tup [V.bool false]) else some (V.tup [V.bool true])
theorem E18 (y1 y2 y3 y4 y5 y6 y7 y8 y9 y10 y11 y12 y13 y14 y15 y16 y17 y18 y19 y20) {r : V} (h : T18 (orcE C) 0 0 0 0 y1 y2 y3 y4 y5 y6 y7 y8 y9 y10 y11 y12 y13 y14 y15 y16 y17 y18 y19 y20 = some r) : runE C 18
 [V.agg [V.int .i64 y1, V.int .i64 y2, V.sl y3 y4, V.sl y5 y6, V.sl y7 y8, V.sl y9 y10], V.agg [V.int .i64 y11, V.int .i64 y12, V.sl y13 y14, V.sl y15 y16, V.sl y17 y18, V.sl y19 y20]] = some r := ofR
 (j := 1) (F := fun s => T18 (orc C s.k) s.k s.m 0 0 y1 y2 y3 y4 y5 y6 y7 y8 y9 y10 y11 y12 y13 y14 y15 y16 y17 y18 y19 y20) (fun _ => by kernel_rfl) (by
  unfold T18
  repeat' first | (with_reducible first | exact cC | refine cN cR fun _ => ?_ | refine cT fun _ => ?_ | refine cF ?_ ?_ | refine cB fun _ => ?_ | refine cN cC fun _ => ?_ | exact cR)) h

noncomputable def T19 (O : Orc) (k m q0 q1 : Nat) (y1 y2 y3 : Int) (y4 : Bool) (y5 y6 : Int) (y7 : Nat) (y8 : List V) (y9 : Nat) (y10 : List V) (y11 : Nat) (y12 : List V) (y13 :
 Nat) (y14 : List V) (y15 : Nat) (y16 : List V) : Option V := need (O.W 0 57 [0, 1, 2] [V.agg [V.int .i64 y1, V.int .i64 y2, V.ref 0, V.ref 1, V.ref 2], V.int .i64 y6] [Ob.row 5 y7 y8 false, Ob.row 5
 y9 y10 false, Ob.row 5 y11 y12 false]) fun x1 => asTup (some x1) fun x2 => PI.asInt .i64 x2[0]? fun x3 => asOsl x2[1]? fun x4 x5 => asOsl x2[2]? fun x6 x7 => asOsl x2[3]? fun x8 x9 => need (O.W 0 20
 [0] [V.ref 0, V.int .i64 x3] [Ob.nrow [] 78 y13 y14]) fun x10 => asTup (some x10) fun x11 => PI.asInt .i64 x11[0]? fun x12 => asOsl x11[1]? fun x13 x14 => need (O.W 0 58 [0] [V.ref 0, V.int .i64 x12]
 [Ob.nrow [] 22 y15 y16]) fun x15 => asTup (some x15) fun x16 => PI.asInt .i64 x16[0]? fun x17 => asOsl x16[1]? fun x18 x19 => must (false || x5.all flatV) (must (false || x7.all flatV) (must (false ||
 x9.all flatV) (some (V.tup [V.int .i64 x17, V.osl x4 x5, V.osl x6 x7, V.osl x8 x9, V.osl x13 x14, V.osl x18 x19]))))
theorem E19 (y1 y2 y3 y4 y5 y6 y7 y8 y9 y10 y11 y12 y13 y14 y15) (y16
 : List V) {r : V} (h : T19 (orcE C) 0 0 0 0 y1 y2 y3 y4 y5 y6 y7 y8 y9 y10 y11 y12 y13 y14 y15 y16 = some r) : runWE C 19 [0, 1, 2, 3, 4] [V.agg [V.int .i64 y1, V.int .i64 y2, V.ref 0, V.ref 1, V.ref
 2, V.ref 3, V.int .i64 y3, V.bool y4, V.ref 4, V.int .i64 y5], V.int .i64 y6] [Ob.row 5 y7 y8 false, Ob.row 5 y9 y10 false, Ob.row 5 y11 y12 false, Ob.nrow [] 78 y13 y14, Ob.nrow [] 22 y15 y16] = some
 r := ofW (j := 1) (F := fun s => T19 (orc C s.k) s.k s.m 0 0 y1 y2 y3 y4 y5 y6 y7 y8 y9 y10 y11 y12 y13 y14 y15 y16) (fun _ => by kernel_rfl) (by
  unfold T19
  repeat' first | (with_reducible first | exact cC | refine cN cQ fun _ => ?_ | refine cT fun _ => ?_ | refine cI fun _ => ?_ | refine cM ?_ | refine cO fun _ _ => ?_ | refine cN cC fun _ => ?_ | exact cQ)) h

noncomputable def T20 (O : Orc) (k m q0 q1 : Nat) (y1 : Int) (y2 : Nat) (y3 : List V) : Option V := O.X 0 20 [0] [Ob.nrow [] 78 0 []] 0 [true, false, true] [] k [(0, V.ref 0), (1, V.int .i64 y1), (5,
 V.int .i64 0)] [Ob.nrow [] 78 y2 y3]
theorem E20 (y1 y2 y3) {r : V} (h : T20 (orcE C) 0 0 0 0 y1 y2 y3 = some r) : runWE C 20 [0] [V.ref 0, V.int .i64 y1] [Ob.nrow [] 78 y2 y3] = some r := ofW (j := 1) (F := fun s
 => T20 (orc C s.k) s.k s.m 0 0 y1 y2 y3) (fun _ => by kernel_rfl) (by
  unfold T20
  repeat' first | with_reducible exact cC | exact cX0 gK) h

noncomputable def T21 (O : Orc) (k m q0 q1 : Nat) (y1 y2 y3 : Int) (y4 : Nat) (y5 : List V) (y6 : Nat) (y7 : List V) (y8 : Nat) (y9 : List V) (y10 : Nat) (y11 : List V) : Option V :=
 need (O.W 0 57 [0, 1, 2] [V.agg [V.int .i64 y1, V.int .i64 y2, V.ref 0, V.ref 1, V.ref 2], V.int .i64 y3] [Ob.row 5 y4 y5 false, Ob.row 5 y6 y7 false, Ob.row 5 y8 y9 false]) fun x1 => asTup (some x1)
 fun x2 => PI.asInt .i64 x2[0]? fun x3 => asOsl x2[1]? fun x4 x5 => asOsl x2[2]? fun x6 x7 => asOsl x2[3]? fun x8 x9 => need (O.W 0 60 [0] [V.ref 0, V.int .i64 x3] [Ob.nrow [] 110 y10 y11]) fun x10 =>
 asTup (some x10) fun x11 => PI.asInt .i64 x11[0]? fun x12 => asOsl x11[1]? fun x13 x14 => must (false || x5.all flatV) (must (false || x7.all flatV) (must (false || x9.all flatV) (some (V.tup [V.int
 .i64 x12, V.osl x4 x5, V.osl x6 x7, V.osl x8 x9, V.osl x13 x14]))))
theorem E21 (y1 y2 y3 y4 y5 y6 y7 y8 y9 y10 y11) {r : V} (h : T21 (orcE C) 0 0 0 0 y1 y2 y3 y4 y5 y6 y7
 y8 y9 y10 y11 = some r) : runWE C 21 [0, 1, 2, 3] [V.agg [V.int .i64 y1, V.int .i64 y2, V.ref 0, V.ref 1, V.ref 2, V.ref 3], V.int .i64 y3] [Ob.row 5 y4 y5 false, Ob.row 5 y6 y7 false, Ob.row 5 y8 y9
 false, Ob.nrow [] 110 y10 y11] = some r := ofW (j := 1) (F := fun s => T21 (orc C s.k) s.k s.m 0 0 y1 y2 y3 y4 y5 y6 y7 y8 y9 y10 y11) (fun _ => by kernel_rfl) (by
  unfold T21
  repeat' first | (with_reducible first | exact cC | refine cN cQ fun _ => ?_ | refine cT fun _ => ?_ | refine cI fun _ => ?_ | refine cM ?_ | refine cO fun _ _ => ?_ | refine cN cC fun _ => ?_ | exact cQ)) h

noncomputable def T22 (O : Orc) (k m q0 q1 : Nat) (y1 y2 y3 y4 : Int) (y5 : Bool) (y6 y7 : Int) (y8 : Nat) (y9 : List V) (y10 : Nat) (y11 : List V) (y12 : Nat) (y13 :
 List V) (y14 : Nat) (y15 : List V) (y16 : Nat) (y17 : List V) : Option V := need (O.W 0 19 [0, 1, 2, 3, 4] [V.agg [V.int .i64 y2, V.int .i64 y3, V.ref 0, V.ref 1, V.ref 2, V.ref 3, V.int .i64 y4,
 V.bool y5, V.ref 4, V.int .i64 y6], V.int .i64 y7] [Ob.row 5 y8 y9 false, Ob.row 5 y10 y11 false, Ob.row 5 y12 y13 false, Ob.nrow [] 78 y14 y15, Ob.nrow [] 22 y16 y17]) fun x1 => asTup (some x1) fun
 x2 => PI.asInt .i64 x2[0]? fun x3 => asOsl x2[1]? fun x4 x5 => asOsl x2[2]? fun x6 x7 => asOsl x2[3]? fun x8 x9 => asOsl x2[4]? fun x10 x11 => asOsl x2[5]? fun x12 x13 => must (false || x5.all flatV)
 (must (false || x7.all flatV) (must (false || x9.all flatV) (some (V.tup [V.int .i64 x3, V.osl x4 x5, V.osl x6 x7, V.osl x8 x9, V.osl x10 x11, V.osl x12 x13]))))
theorem E22 (y1 y2 y3 y4 y5 y6 y7 y8 y9 y10 y11 y12 y13 y14 y15) (y16
 : Nat) (y17 : List V) {r : V} (h : T22 (orcE C) 0 0 0 0 y1 y2 y3 y4 y5 y6 y7 y8 y9 y10 y11 y12 y13 y14 y15 y16 y17 = some r) : runWE C 22 [0, 1, 2, 3, 4] [V.agg [V.int .i64 y1, V.int .i64 y2, V.int
 .i64 y3, V.ref 0, V.ref 1, V.ref 2, V.ref 3, V.int .i64 y4, V.bool y5, V.ref 4, V.int .i64 y6], V.int .i64 y7] [Ob.row 5 y8 y9 false, Ob.row 5 y10 y11 false, Ob.row 5 y12 y13 false, Ob.nrow [] 78 y14
 y15, Ob.nrow [] 22 y16 y17] = some r := ofW (j := 1) (F := fun s => T22 (orc C s.k) s.k s.m 0 0 y1 y2 y3 y4 y5 y6 y7 y8 y9 y10 y11 y12 y13 y14 y15 y16 y17) (fun _ => by kernel_rfl) (by
  unfold T22
  repeat' first | (with_reducible first | exact cC | refine cN cQ fun _ => ?_ | refine cT fun _ => ?_ | refine cI fun _ => ?_ | refine cM ?_ | refine cO fun _ _ => ?_ | refine cN cC fun _ => ?_ | exact cQ)) h

noncomputable def T23 (O : Orc) (k m q0 q1 : Nat) (y1 y2 y3 : Int) (y4 : Nat) (y5 : List V) (y6 : Nat) (y7 : List V) (y8 : Nat) (y9 : List V) (y10 : Nat) (y11 : List V) (y12 : Int) (y13
 : Bool) (y14 : Nat) (y15 : List V) (y16 : Int) (y17 : Int) : Option V := need (O.R 0 61 [V.agg [V.int .i64 y2, V.int .i64 y3, V.sl y4 y5, V.sl y6 y7, V.sl y8 y9, V.sl y10 y11, V.int .i64 y12, V.bool
 y13, V.sl y14 y15, V.int .i64 y16], V.int .i64 y17]) fun x1 => asTup (some x1) fun x2 => PI.asInt .i64 x2[0]? fun x3 => bif decide (x3 < 0) then some (V.tup [V.int .i64 (-1)]) else some (V.tup [V.int
 .i64 x3])
theorem E23 (y1 y2 y3 y4 y5 y6 y7 y8 y9 y10 y11 y12 y13 y14 y15 y16 y17) {r : V} (h : T23 (orcE C) 0 0 0 0 y1 y2 y3 y4 y5 y6 y7 y8 y9 y10 y11 y12 y13 y14 y15 y16 y17 = some r) : runE C 23 [V.agg [V.int .i64 y1, V.int .i64 y2, V.int .i64 y3, V.sl y4
 y5, V.sl y6 y7, V.sl y8 y9, V.sl y10 y11, V.int .i64 y12, V.bool y13, V.sl y14 y15, V.int .i64 y16], V.int .i64 y17] = some r := ofR (j := 1) (F := fun s => T23 (orc C s.k) s.k s.m 0 0 y1 y2 y3 y4 y5
 y6 y7 y8 y9 y10 y11 y12 y13 y14 y15 y16 y17) (fun _ => by kernel_rfl) (by
  unfold T23
  repeat' first | (with_reducible first | exact cC | refine cN cR fun _ => ?_ | refine cT fun _ => ?_ | refine cI fun _ => ?_ | refine cF ?_ ?_ | refine cN cC fun _ => ?_ | exact cR)) h

noncomputable def T30 (O : Orc) (k m q0 q1 : Nat) (y1 y2 : Int) (y3 : Nat) (y4 : List V) (y5 : Nat) (y6 : List V) (y7 : Nat) (y8 : List V) (y9 : Int) : Option V := need (O.R 0 69 [V.sl y3 y4,
 V.int .i64 y9]) fun x1 => asTup (some x1) fun x2 => PI.asInt .i64 x2[0]? fun x3 => bif decide (x3 < 0) then some (V.tup [V.int .i64 (-1)]) else need (O.R 0 69 [V.sl y5 y6, V.int .i64 x3]) fun x4 =>
 asTup (some x4) fun x5 => PI.asInt .i64 x5[0]? fun x6 => bif decide (x6 < 0) then some (V.tup [V.int .i64 (-1)]) else need (O.R 0 69 [V.sl y7 y8, V.int .i64 x6]) fun x7 => asTup (some x7) fun x8 =>
 PI.asInt .i64 x8[0]? fun x9 => bif decide (x9 < 0) then some (V.tup [V.int .i64 (-1)]) else some (V.tup [V.int .i64 x9])
theorem E30 (y1 y2 y3 y4 y5 y6 y7 y8 y9) {r : V} (h : T30 (orcE C) 0 0 0 0 y1 y2 y3 y4 y5 y6 y7 y8 y9 = some r) : runE C
 30 [V.agg [V.int .i64 y1, V.int .i64 y2, V.sl y3 y4, V.sl y5 y6, V.sl y7 y8], V.int .i64 y9] = some r := ofR (j := 1) (F := fun s => T30 (orc C s.k) s.k s.m 0 0 y1 y2 y3 y4 y5 y6 y7 y8 y9) (fun _ =>
 by kernel_rfl) (by
  unfold T30
  repeat' first | (with_reducible first | exact cC | refine cN cR fun _ => ?_ | refine cT fun _ => ?_ | refine cI fun _ => ?_ | refine cF ?_ ?_ | refine cN cC fun _ => ?_ | exact cR)) h

noncomputable def T31 (O : Orc) (k m q0 q1 : Nat) (y1 : Nat) (y2 : List V) (y3 : Int) : Option V := bif decide (IntKind.i64.wrap (y3 - (↑y1 : Int)) < 0) then some (V.tup [V.int .i64 (-1)]) else O.L 0
 31 0 [true, true, true, false, true] [] k [(0, V.sl y1 y2), (1, V.int .i64 (IntKind.i64.wrap (y3 - (↑y1 : Int)))), (5, V.int .i64 0)] []
theorem E31 (y1 y2 y3) {r : V} (h : T31 (orcE C) 0 0 0 0 y1 y2 y3 = some r) : runE C 31 [V.sl y1 y2, V.int .i64 y3] = some r := ofR (j := 1) (F := fun s => T31 (orc C s.k) s.k
 s.m 0 0 y1 y2 y3) (fun _ => by kernel_rfl) (by
  unfold T31
  repeat' first | (with_reducible first | exact cC | refine cF ?_ ?_) | exact cD0 gK) h

noncomputable def T8l1 (O : Orc) (k m q0 q1 : Nat) (y1 : Nat) (y2 : List V) (y3 y4 : Int) : Option V := bif decide (y4 < (↑y1 : Int)) then must (inB y4 y1) (asSl y2[y4.toNat * 2]? fun x1 x2 =>
 PI.asInt .i64 y2[y4.toNat * 2 + 1]? fun x3 => need (O.R 0 32 [V.agg [V.sl x1 x2, V.int .i64 x3], V.int .i64 y3]) fun x4 => asTup (some x4) fun x5 => PI.asInt .i64 x5[0]? fun x6 => bif decide (x6 < 0)
 then some (V.tup [V.int .i64 (-1)]) else O.L 0 8 0 [true, true, true, false, true] [] m [(0, V.sl y1 y2), (1, V.int .i64 x6), (5, V.int .i64 (IntKind.i64.wrap (y4 + 1)))] []) else some (V.tup [V.int
 .i64 y3])
theorem E8l1 (y1 y2 y3 y4) {r : V} (h : T8l1 (orcE C) 0 0 0 0 y1 y2 y3 y4 = some r) : loopE C 8 0 [true, true, true, false, true] [] [(0, V.sl y1 y2), (1, V.int .i64
 y3), (5, V.int .i64 y4)] [] = some r := ofL (j := 0) (F := fun s => T8l1 (orc C s.k) s.k s.m 0 0 y1 y2 y3 y4) (fs0 fun _ _ => by kernel_rfl) (by
  unfold T8l1
  repeat' first | (with_reducible first | exact cC | refine cN cR fun _ => ?_ | refine cT fun _ => ?_ | refine cI fun _ => ?_ | refine cM ?_ | refine cF ?_ ?_ | refine cL fun _ _ => ?_ | refine cN cC fun _ => ?_ | exact cR) | exact cD0 gM) h

noncomputable def T33 (O : Orc) (k m q0 q1 : Nat) (y1 : Nat) (y2 : List V) (y3 : Int) : Option V := bif decide (IntKind.i64.wrap (y3 - (↑y1 : Int)) < 0) then some (V.tup [V.int .i64 (-1)]) else O.L 0
 33 0 [true, true, true, false, true] [] k [(0, V.sl y1 y2), (1, V.int .i64 (IntKind.i64.wrap (y3 - (↑y1 : Int)))), (5, V.int .i64 0)] []
theorem E33 (y1 y2 y3) {r : V} (h : T33 (orcE C) 0 0 0 0 y1 y2 y3 = some r) : runE C 33 [V.sl y1 y2, V.int .i64 y3] = some r := ofR (j := 1) (F := fun s => T33 (orc C s.k) s.k
 s.m 0 0 y1 y2 y3) (fun _ => by kernel_rfl) (by
  unfold T33
  repeat' first | (with_reducible first | exact cC | refine cF ?_ ?_) | exact cD0 gK) h

noncomputable def T42 (O : Orc) (k m q0 q1 : Nat) (y1 y2 : Int) (y3 : Nat) (y4 : List V) (y5 : Nat) (y6 : List V) (y7 : Nat) (y8 : List V) : Option V := need (O.R 0 86 [V.sl y3 y4]) fun x1 =>
 asTup (some x1) fun x2 => asOsl x2[0]? fun x3 x4 => need (O.R 0 86 [V.sl y5 y6]) fun x5 => asTup (some x5) fun x6 => asOsl x6[0]? fun x7 x8 => need (O.R 0 86 [V.sl y7 y8]) fun x9 => asTup (some x9)
 fun x10 => asOsl x10[0]? fun x11 x12 => must (false || x4.all flatV) (must (false || x8.all flatV) (must (false || x12.all flatV) (some (V.tup [V.int .i64 y1, V.int .i64 y2, V.osl x3 x4, V.osl x7 x8,
 V.osl x11 x12]))))
theorem E42 (y1 y2 y3 y4 y5 y6 y7 y8) {r : V} (h : T42 (orcE C) 0 0 0 0 y1 y2 y3 y4 y5 y6 y7 y8 = some r) : runE C 42 [V.agg
 [V.int .i64 y1, V.int .i64 y2, V.sl y3 y4, V.sl y5 y6, V.sl y7 y8]] = some r := ofR (j := 1) (F := fun s => T42 (orc C s.k) s.k s.m 0 0 y1 y2 y3 y4 y5 y6 y7 y8) (fun _ => by kernel_rfl) (by
  unfold T42
  repeat' first | (with_reducible first | exact cC | refine cN cR fun _ => ?_ | refine cT fun _ => ?_ | refine cM ?_ | refine cO fun _ _ => ?_ | refine cN cC fun _ => ?_ | exact cR)) h

noncomputable def T43 (O : Orc) (k m q0 q1 : Nat) (y1 : Nat) (y2 : List V) : Option V := must (decide ((↑y1 : Int) = (↑y1 : Int)) && decide (0 ≤ (↑y1 : Int)) && decide ((↑y1 : Int) ≤ 140737488355328)
 && decide ((↑y1 : Int) * 24 ≤ 140737488355328)) (O.L 0 43 0 [true, true, false, true] [] k [(0, V.sl y1 y2), (3, V.ref 0), (4, V.int .i64 0)] [Ob.nrow [] 22 (↑y1 : Int).toNat (reps (↑y1 : Int).toNat
 [V.nilsl])])
theorem E43 (y1 y2) {r : V} (h : T43 (orcE C) 0 0 0 0 y1 y2 = some r) : runE C 43 [V.sl y1 y2] = some r := ofR (j := 1) (F := fun s => T43 (orc C s.k) s.k s.m 0 0 y1 y2) (fun _ => by
 kernel_rfl) (by
  unfold T43
  repeat' first | (with_reducible first | exact cC | refine cM ?_) | exact cD0 gK) h

noncomputable def T12l1 (O : Orc) (k m q0 q1 : Nat) (y1 : Nat) (y2 : List V) (y3 : Int) (y4 : Nat) (y5 : List V) : Option V := bif decide (y3 < (↑y1 : Int)) then must (inB y3 y1) (asSl y2[y3.toNat *
 2]? fun x1 x2 => PI.asInt .i64 y2[y3.toNat * 2 + 1]? fun x3 => need (O.R 0 44 [V.agg [V.sl x1 x2, V.int .i64 x3]]) fun x4 => asTup (some x4) fun x5 => asOsl x5[0]? fun x6 x7 => PI.asInt .i64 x5[1]?
 fun x8 => must (inB y3 y4) (must (x7.all flatV) (must ([V.own false 5 1 x6 x7, V.int .i64 x8].length.beq 2 && (y3.toNat * 2 + [V.own false 5 1 x6 x7, V.int .i64 x8].length).ble y5.length) (O.L 0 12 0
 [true, true, false, true] [] m [(0, V.sl y1 y2), (3, V.ref 0), (4, V.int .i64 (IntKind.i64.wrap (y3 + 1)))] [Ob.nrow [] 78 y4 (splice y5 (y3.toNat * 2) [V.own false 5 1 x6 x7, V.int .i64 x8])]))))
 else some (V.tup [V.osl y4 y5])
theorem E12l1 (y1 y2 y3 y4 y5) {r : V} (h : T12l1 (orcE C) 0 0 0 0 y1 y2 y3 y4 y5 = some r) : loopE C 12 0 [true, true, false, true] [] [(0, V.sl y1 y2), (3,
 V.ref 0), (4, V.int .i64 y3)] [Ob.nrow [] 78 y4 y5] = some r := ofL (j := 0) (F := fun s => T12l1 (orc C s.k) s.k s.m 0 0 y1 y2 y3 y4 y5) (fs0 fun _ _ => by kernel_rfl) (by
  unfold T12l1
  repeat' first | (with_reducible first | exact cC | refine cN cR fun _ => ?_ | refine cT fun _ => ?_ | refine cI fun _ => ?_ | refine cM ?_ | refine cF ?_ ?_ | refine cL fun _ _ => ?_ | refine cO fun _ _ => ?_ | refine cN cC fun _ => ?_ | exact cR) | exact cD0 gM) h

noncomputable def T45 (O : Orc) (k m q0 q1 : Nat) (y1 : Nat) (y2 : List V) : Option V := must (decide ((↑y1 : Int) = (↑y1 : Int)) && decide (0 ≤ (↑y1 : Int)) && decide ((↑y1 : Int) ≤ 140737488355328)
 && decide ((↑y1 : Int) * 80 ≤ 140737488355328)) (O.L 0 45 0 [true, true, false, true] [] k [(0, V.sl y1 y2), (3, V.ref 0), (4, V.int .i64 0)] [Ob.nrow [] 110 (↑y1 : Int).toNat (reps (↑y1 : Int).toNat
 [V.int .i64 0, V.int .i64 0, V.nilsl, V.int .i64 0, V.int .i64 0, V.nilsl])])
theorem E45 (y1 y2) {r : V} (h : T45 (orcE C) 0 0 0 0 y1 y2 = some r) : runE C 45 [V.sl y1 y2] = some r := ofR (j := 1) (F := fun s => T45 (orc C s.k) s.k s.m 0 0 y1 y2) (fun _ => by
 kernel_rfl) (by
  unfold T45
  repeat' first | (with_reducible first | exact cC | refine cM ?_) | exact cD0 gK) h

noncomputable def T34 (O : Orc) (k m q0 q1 : Nat) (y1 y2 : Int) (y3 : Nat) (y4 : List V) (y5 : Nat) (y6 : List V) (y7 : Nat) (y8 : List V) (y9 : Nat) (y10 : List V) (y11 : Int) (y12 : Bool) (y13 : Nat) (y14 : List V) (y15 : Int) : Option V := need (O.R 0 71 [V.agg [V.int .i64 y1, V.int .i64 y2, V.sl y3 y4, V.sl y5 y6, V.sl y7 y8]]) fun x1 => asTup (some x1) fun x2 => PI.asInt .i64 x2[0]?
 fun x3 => bif x3 != 0 then some (V.tup [V.int .i64 x3]) else need (O.R 0 72 [V.sl y9 y10]) fun x4 => asTup (some x4) fun x5 => PI.asInt .i64 x5[0]? fun x6 => bif x6 != 0 then some (V.tup [V.int .i64
 x6]) else need (O.R 0 73 [V.sl y9 y10]) fun x7 => asTup (some x7) fun x8 => asSl x8[0]? fun x9 x10 => need (O.R 0 37 [V.sl y7 y8, V.sl x9 x10]) fun x11 => asTup (some x11) fun x12 => PI.asBool x12[0]?
 fun x13 => bif !x13 then some (V.tup [V.int .i64 1]) else need (O.R 0 74 [V.int .i64 y11, V.int .i64 1, V.int .i64 1099511627776]) fun x14 => asTup (some x14) fun x15 => PI.asBool x15[0]? fun x16 =>
 bif !x16 then some (V.tup [V.int .i64 3]) else bif decide ((↑y13 : Int) > 24) then some (V.tup [V.int .i64 2]) else bif (↑y13 : Int) == 0 then some (V.tup [V.int .i64 1]) else bif decide (y15 < 1)
 then some (V.tup [V.int .i64 1]) else bif decide (y15 > y1) then some (V.tup [V.int .i64 1]) else bif IntKind.i64.wrap (IntKind.i64.wrap (y15 + (↑y13 : Int)) - 1) != y1 then some (V.tup [V.int .i64
 1]) else O.L 0 34 0 [true, true, true, true, true, true, true, true, false, true] [] k [(1, V.ptr 0 0), (5, V.int .i64 (↑y13 : Int)), (6, V.int .i64 0)] [Ob.box 38 [V.int .i64 y1, V.int .i64 y2, V.sl
 y3 y4, V.sl y5 y6, V.sl y7 y8, V.sl y9 y10, V.int .i64 y11, V.bool y12, V.sl y13 y14, V.int .i64 y15] false]
theorem E34 (y1 y2 y3 y4 y5 y6 y7 y8 y9 y10 y11 y12 y13 y14 y15) {r
 : V} (h : T34 (orcE C) 0 0 0 0 y1 y2 y3 y4 y5 y6 y7 y8 y9 y10 y11 y12 y13 y14 y15 = some r) : runE C 34 [V.agg [V.int .i64 y1, V.int .i64 y2, V.sl y3 y4, V.sl y5 y6, V.sl y7 y8, V.sl y9 y10, V.int
 .i64 y11, V.bool y12, V.sl y13 y14, V.int .i64 y15]] = some r := ofR (j := 1) (F := fun s => T34 (orc C s.k) s.k s.m 0 0 y1 y2 y3 y4 y5 y6 y7 y8 y9 y10 y11 y12 y13 y14 y15) (fun _ => by kernel_rfl) (by
  unfold T34
  repeat' first | (with_reducible first | exact cC | refine cN cR fun _ => ?_ | refine cT fun _ => ?_ | refine cI fun _ => ?_ | refine cF ?_ ?_ | refine cB fun _ => ?_ | refine cL fun _ _ => ?_ | refine cN cC fun _ => ?_ | exact cR) | exact cD0 gK) h

noncomputable def T35 (O : Orc) (k m q0 q1 : Nat) (y1 y2 : Int) (y3 : Nat) (y4 : List V) (y5 : Nat) (y6 : List V) (y7 : Nat) (y8 : List V) (y9 : Nat) (y10 : List V) (y11 : Int) (y12 : Bool) (y13 : Nat) (y14 : List V) (y15 y16 : Int) : Option V := bif decide (y16 < 0) then some (V.tup [V.bool true]) else some (V.tup [V.bool (decide (y16 > IntKind.i64.wrap (y2 + y11)))])
theorem E35 (y1 y2 y3 y4 y5 y6 y7 y8 y9 y10 y11 y12 y13 y14 y15 y16) {r : V} (h : T35 (orcE C) 0 0 0 0 y1 y2 y3 y4 y5 y6 y7 y8 y9 y10 y11 y12 y13 y14 y15 y16 = some r) : runE C 35 [V.pin [V.int .i64 y1, V.int .i64 y2, V.sl y3 y4, V.sl y5 y6, V.sl y7 y8,
 V.sl y9 y10, V.int .i64 y11, V.bool y12, V.sl y13 y14, V.int .i64 y15] 0, V.int .i64 y16] = some r := ofR (j := 1) (F := fun s => T35 (orc C s.k) s.k s.m 0 0 y1 y2 y3 y4 y5 y6 y7 y8 y9 y10 y11 y12 y13
 y14 y15 y16) (fun _ => by kernel_rfl) (by
  unfold T35
  repeat' first | (with_reducible first | exact cC | refine cF ?_ ?_)) h

noncomputable def T36 (O : Orc) (k m q0 q1 : Nat) (y1 : Nat) (y2 : List V) (y3 y4 : Int) (y5 : Nat) (y6 : List V) (y7 : Nat) (y8 : List V) (y9 : Nat) (y10 : List V) (y11 : Nat) (y12 : List V) :
 Option V := need (O.R 0 72 [V.sl y1 y2]) fun x1 => asTup (some x1) fun x2 => PI.asInt .i64 x2[0]? fun x3 => bif x3 != 0 then some (V.tup [V.int .i64 x3]) else need (O.R 0 71 [V.agg [V.int .i64 y3,
 V.int .i64 y4, V.sl y5 y6, V.sl y7 y8, V.sl y9 y10]]) fun x4 => asTup (some x4) fun x5 => PI.asInt .i64 x5[0]? fun x6 => bif x6 != 0 then some (V.tup [V.int .i64 x6]) else need (O.R 0 73 [V.sl y1 y2])
 fun x7 => asTup (some x7) fun x8 => asSl x8[0]? fun x9 x10 => need (O.R 0 37 [V.sl y7 y8, V.sl x9 x10]) fun x11 => asTup (some x11) fun x12 => PI.asBool x12[0]? fun x13 => bif !x13 then some (V.tup
 [V.int .i64 1]) else bif decide ((↑y11 : Int) > 5) then some (V.tup [V.int .i64 2]) else need (O.R 0 38 [V.agg [V.int .i64 y3, V.int .i64 y4, V.sl y5 y6, V.sl y7 y8, V.sl y9 y10]]) fun x14 => asTup
 (some x14) fun x15 => asSl x15[0]? fun x16 x17 => O.L 0 36 0 [true, true, true, true, true, true, false, true] [] k [(0, V.sl y1 y2), (3, V.ptr 0 0), (7, V.sl x16 x17), (8, V.int .i64 0)] [Ob.box 46
 [V.int .i64 y3, V.int .i64 y4, V.sl y5 y6, V.sl y7 y8, V.sl y9 y10, V.sl y11 y12] false]
theorem E36 (y1 y2 y3 y4 y5 y6 y7 y8 y9 y10 y11 y12) {r : V} (h : T36 (orcE C) 0 0 0 0 y1 y2
 y3 y4 y5 y6 y7 y8 y9 y10 y11 y12 = some r) : runE C 36 [V.sl y1 y2, V.agg [V.int .i64 y3, V.int .i64 y4, V.sl y5 y6, V.sl y7 y8, V.sl y9 y10, V.sl y11 y12]] = some r := ofR (j := 1) (F := fun s => T36
 (orc C s.k) s.k s.m 0 0 y1 y2 y3 y4 y5 y6 y7 y8 y9 y10 y11 y12) (fun _ => by kernel_rfl) (by
  unfold T36
  repeat' first | (with_reducible first | exact cC | refine cN cR fun _ => ?_ | refine cT fun _ => ?_ | refine cI fun _ => ?_ | refine cF ?_ ?_ | refine cB fun _ => ?_ | refine cL fun _ _ => ?_ | refine cN cC fun _ => ?_ | exact cR) | exact cD0 gK) h

noncomputable def T38 (O : Orc) (k m q0 q1 : Nat) (y1 y2 : Int) (y3 : Nat) (y4 : List V) (y5 : Nat) (y6 : List V) (y7 : Nat) (y8 : List V) : Option V := need (O.R 0 71 [V.agg [V.int .i64 y1,
 V.int .i64 y2, V.sl y3 y4, V.sl y5 y6, V.sl y7 y8]]) fun x1 => asTup (some x1) fun x2 => PI.asInt .i64 x2[0]? fun x3 => bif x3 != 0 then some (V.tup [V.sl 0 []]) else need (O.R 0 79 [V.int .i64 y1])
 fun x4 => asTup (some x4) fun x5 => asSl x5[0]? fun x6 x7 => need (O.R 0 79 [V.int .i64 y2]) fun x8 => asTup (some x8) fun x9 => asSl x9[0]? fun x10 x11 => need (O.R 0 78 [V.sl 5 [V.sl x6 x7, V.sl x10
 x11, V.sl y3 y4, V.sl y5 y6, V.sl y7 y8]]) fun x12 => asTup (some x12) fun x13 => asOsl x13[0]? fun x14 x15 => need (O.R 0 77 [V.str { data := #[(98 : UInt8), (102 : UInt8), (116 : UInt8)] }, V.sl x14
 x15]) fun x16 => asTup (some x16) fun x17 => asOsl x17[0]? fun x18 x19 => some (V.tup [V.sl x18 x19])
theorem E38 (y1 y2 y3 y4 y5 y6 y7 y8) {r : V} (h : T38 (orcE C) 0 0 0 0 y1 y2 y3 y4 y5 y6 y7 y8 = some r) : runE C 38 [V.agg
 [V.int .i64 y1, V.int .i64 y2, V.sl y3 y4, V.sl y5 y6, V.sl y7 y8]] = some r := ofR (j := 1) (F := fun s => T38 (orc C s.k) s.k s.m 0 0 y1 y2 y3 y4 y5 y6 y7 y8) (fun _ => by kernel_rfl) (by
  unfold T38
  repeat' first | (with_reducible first | exact cC | refine cN cR fun _ => ?_ | refine cT fun _ => ?_ | refine cI fun _ => ?_ | refine cF ?_ ?_ | refine cL fun _ _ => ?_ | refine cO fun _ _ => ?_ | refine cN cC fun _ => ?_ | exact cR)) h

noncomputable def T37 (O : Orc) (k m q0 q1 : Nat) (y1 : Nat) (y2 : List V) (y3 : Nat) (y4 : List V) : Option V := need (O.R 0 76 [V.sl y1 y2, V.sl y3 y4]) fun x1 => asTup (some x1) fun x2 => PI.asInt
 .i64 x2[0]? fun x3 => some (V.tup [V.bool (x3 == 0)])
theorem E37 (y1 y2 y3 y4) {r : V} (h : T37 (orcE C) 0 0 0 0 y1 y2 y3 y4 = some r) : runE C 37 [V.sl y1 y2, V.sl y3 y4] = some r := ofR (j := 1) (F := fun s => T37
 (orc C s.k) s.k s.m 0 0 y1 y2 y3 y4) (fun _ => by kernel_rfl) (by
  unfold T37
  repeat' first | (with_reducible first | exact cC | refine cN cR fun _ => ?_ | refine cT fun _ => ?_ | refine cI fun _ => ?_ | refine cN cC fun _ => ?_ | exact cR)) h

noncomputable def T39 (O : Orc) (k m q0 q1 : Nat) (y1 : Nat) (y2 : List V) (y3 y4 : Int) (y5 : Nat) (y6 : List V) (y7 : Nat) (y8 : List V) (y9 : Nat) (y10 : List V) (y11 : Nat) (y12 : List V) :
 Option V := need (O.R 0 36 [V.sl y1 y2, V.agg [V.int .i64 y3, V.int .i64 y4, V.sl y5 y6, V.sl y7 y8, V.sl y9 y10, V.sl y11 y12]]) fun x1 => asTup (some x1) fun x2 => PI.asInt .i64 x2[0]? fun x3 => bif
 x3 == 0 then need (O.R 0 80 [V.sl y1 y2, V.agg [V.int .i64 y3, V.int .i64 y4, V.sl y5 y6, V.sl y7 y8, V.sl y9 y10, V.sl y11 y12]]) fun x4 => asTup (some x4) fun x5 => PI.asInt .i64 x5[0]? fun x6 =>
 need (O.R 0 81 [V.sl y1 y2]) fun x7 => asTup (some x7) fun x8 => PI.asInt .i64 x8[0]? fun x9 => some (V.tup [V.bool (decide (IntKind.i64.wrap (3 * x6) > IntKind.i64.wrap (2 * x9)))]) else some (V.tup
 [V.bool false])
theorem E39 (y1 y2 y3 y4 y5 y6 y7 y8 y9 y10 y11 y12) {r : V} (h : T39 (orcE C) 0 0 0 0 y1 y2
 y3 y4 y5 y6 y7 y8 y9 y10 y11 y12 = some r) : runE C 39 [V.sl y1 y2, V.agg [V.int .i64 y3, V.int .i64 y4, V.sl y5 y6, V.sl y7 y8, V.sl y9 y10, V.sl y11 y12]] = some r := ofR (j := 1) (F := fun s => T39
 (orc C s.k) s.k s.m 0 0 y1 y2 y3 y4 y5 y6 y7 y8 y9 y10 y11 y12) (fun _ => by kernel_rfl) (by
  unfold T39
  repeat' first | (with_reducible first | exact cC | refine cN cR fun _ => ?_ | refine cT fun _ => ?_ | refine cI fun _ => ?_ | refine cF ?_ ?_ | refine cN cC fun _ => ?_ | exact cR)) h

noncomputable def T40 (O : Orc) (k m q0 q1 : Nat) (y1 y2 : Int) (y3 : Nat) (y4 : List V) (y5 : Nat) (y6 : List V) (y7 : Nat) (y8 : List V) (y9 : Nat) (y10 : List V) (y11 : Int) (y12 : Bool) (y13 : Nat) (y14 : List V) (y15 : Int) (y16 : Nat) (y17 : List V) (y18 y19 : Int) (y20 : Nat) (y21 : List V) (y22 : Nat) (y23 : List V) (y24 : Nat) (y25 : List V) (y26 : Nat) (y27 : List V) :
 Option V := need (O.R 0 82 [V.sl y16 y17, V.sl y9 y10, V.agg [V.int .i64 y18, V.int .i64 y19, V.sl y20 y21, V.sl y22 y23, V.sl y24 y25, V.sl y26 y27]]) fun x1 => asTup (some x1) fun x2 => PI.asInt
 .i64 x2[0]? fun x3 => need (O.R 0 81 [V.sl y9 y10]) fun x4 => asTup (some x4) fun x5 => PI.asInt .i64 x5[0]? fun x6 => some (V.tup [V.bool (decide (IntKind.i64.wrap (3 * x3) > x6))])
theorem E40 (y1 y2 y3 y4 y5 y6 y7 y8 y9 y10 y11 y12 y13 y14 y15 y16 y17 y18 y19 y20 y21 y22 y23 y24 y25 y26 y27) {r : V} (h : T40 (orcE C) 0 0 0 0 y1 y2
 y3 y4 y5 y6 y7 y8 y9 y10 y11 y12 y13 y14 y15 y16 y17 y18 y19 y20 y21 y22 y23 y24 y25 y26 y27 = some r) : runE C 40 [V.pin [V.int .i64 y1, V.int .i64 y2, V.sl y3 y4, V.sl y5 y6, V.sl y7 y8, V.sl y9
 y10, V.int .i64 y11, V.bool y12, V.sl y13 y14, V.int .i64 y15] 0, V.sl y16 y17, V.agg [V.int .i64 y18, V.int .i64 y19, V.sl y20 y21, V.sl y22 y23, V.sl y24 y25, V.sl y26 y27]] = some r := ofR (j := 1)
 (F := fun s => T40 (orc C s.k) s.k s.m 0 0 y1 y2 y3 y4 y5 y6 y7 y8 y9 y10 y11 y12 y13 y14 y15 y16 y17 y18 y19 y20 y21 y22 y23 y24 y25 y26 y27) (fun _ => by kernel_rfl) (by
  unfold T40
  repeat' first | (with_reducible first | exact cC | refine cN cR fun _ => ?_ | refine cT fun _ => ?_ | refine cI fun _ => ?_ | refine cN cC fun _ => ?_ | exact cR)) h

noncomputable def T41 (O : Orc) (k m q0 q1 : Nat) (y1 y2 : Int) (y3 : Nat) (y4 : List V) (y5 : Nat) (y6 : List V) (y7 : Nat) (y8 : List V) (y9 : Nat) (y10 : List V) (y11 : Int) (y12 : Bool) (y13 : Nat) (y14 : List V) (y15 : Int) : Option V := need (O.R 0 83 [V.agg [V.int .i64 y1, V.int .i64 y2, V.sl y3 y4, V.sl y5 y6, V.sl y7 y8]]) fun x1 => asTup (some x1) fun x2 => PI.asInt .i64 x2[0]?
 fun x3 => PI.asInt .i64 x2[1]? fun x4 => asOsl x2[2]? fun x5 x6 => asOsl x2[3]? fun x7 x8 => asOsl x2[4]? fun x9 x10 => need (O.R 0 84 [V.sl y9 y10]) fun x11 => asTup (some x11) fun x12 => asSl
 x12[0]? fun x13 x14 => need (O.R 0 85 [V.sl y13 y14]) fun x15 => asTup (some x15) fun x16 => asSl x16[0]? fun x17 x18 => some (V.tup [V.int .i64 x3, V.int .i64 x4, V.sl x5 x6, V.sl x7 x8, V.sl x9 x10,
 V.sl x13 x14, V.int .i64 y11, V.bool y12, V.sl x17 x18, V.int .i64 y15])
theorem E41 (y1 y2 y3 y4 y5 y6 y7 y8 y9 y10 y11 y12 y13 y14 y15) {r
 : V} (h : T41 (orcE C) 0 0 0 0 y1 y2 y3 y4 y5 y6 y7 y8 y9 y10 y11 y12 y13 y14 y15 = some r) : runE C 41 [V.agg [V.int .i64 y1, V.int .i64 y2, V.sl y3 y4, V.sl y5 y6, V.sl y7 y8, V.sl y9 y10, V.int
 .i64 y11, V.bool y12, V.sl y13 y14, V.int .i64 y15]] = some r := ofR (j := 1) (F := fun s => T41 (orc C s.k) s.k s.m 0 0 y1 y2 y3 y4 y5 y6 y7 y8 y9 y10 y11 y12 y13 y14 y15) (fun _ => by kernel_rfl) (by
  unfold T41
  repeat' first | (with_reducible first | exact cC | refine cN cR fun _ => ?_ | refine cT fun _ => ?_ | refine cI fun _ => ?_ | refine cL fun _ _ => ?_ | refine cO fun _ _ => ?_ | refine cN cC fun _ => ?_ | exact cR)) h

noncomputable def T46 (O : Orc) (k m q0 q1 : Nat) (y1 y2 : Int) (y3 : Nat) (y4 : List V) (y5 : Nat) (y6 : List V) (y7 : Nat) (y8 : List V) (y9 : Nat) (y10 : List V) (y11 : Int) (y12 : Bool) (y13 : Nat) (y14 : List V) (y15 : Int) : Option V := need (O.R 0 88 [V.agg [V.int .i64 y1, V.int .i64 y2, V.sl y3 y4, V.sl y5 y6, V.sl y7 y8]]) fun x1 => asTup (some x1) fun x2 => PI.asInt .i64 x2[0]?
 fun x3 => bif x3 != 0 then some (V.tup [V.int .i64 x3]) else need (O.R 0 89 [V.sl y9 y10]) fun x4 => asTup (some x4) fun x5 => PI.asInt .i64 x5[0]? fun x6 => bif x6 != 0 then some (V.tup [V.int .i64
 x6]) else need (O.R 0 90 [V.sl y9 y10]) fun x7 => asTup (some x7) fun x8 => asSl x8[0]? fun x9 x10 => need (O.R 0 49 [V.sl y7 y8, V.sl x9 x10]) fun x11 => asTup (some x11) fun x12 => PI.asBool x12[0]?
 fun x13 => bif !x13 then some (V.tup [V.int .i64 1]) else need (O.R 0 91 [V.int .i64 y11, V.int .i64 1, V.int .i64 1099511627776]) fun x14 => asTup (some x14) fun x15 => PI.asBool x15[0]? fun x16 =>
 bif !x16 then some (V.tup [V.int .i64 3]) else bif decide ((↑y13 : Int) > 24) then some (V.tup [V.int .i64 2]) else bif (↑y13 : Int) == 0 then some (V.tup [V.int .i64 1]) else bif decide (y15 < 1)
 then some (V.tup [V.int .i64 1]) else bif decide (y15 > 1000000) then some (V.tup [V.int .i64 1]) else bif IntKind.i64.wrap (IntKind.i64.wrap (y15 + (↑y13 : Int)) - 1) != y1 then some (V.tup [V.int
 .i64 1]) else must (inB (IntKind.i64.wrap ((↑y13 : Int) - 1)) y13) (must (decide ((IntKind.i64.wrap ((↑y13 : Int) - 1)).toNat * 1 < y14.length)) (asSl y14[(IntKind.i64.wrap ((↑y13 : Int) - 1)).toNat *
 1]? fun x17 x18 => need (O.R 0 49 [V.sl x17 x18, V.sl y3 y4]) fun x19 => asTup (some x19) fun x20 => PI.asBool x20[0]? fun x21 => bif !x21 then some (V.tup [V.int .i64 1]) else need (O.R 0 92 [V.sl
 y13 y14, V.fn 93 []]) fun x22 => asTup (some x22) fun x23 => PI.asBool x23[0]? fun x24 => bif x24 then some (V.tup [V.int .i64 1]) else some (V.tup [V.int .i64 0])))
theorem E46 (y1 y2 y3 y4 y5 y6 y7 y8 y9 y10 y11 y12 y13 y14 y15) {r
 : V} (h : T46 (orcE C) 0 0 0 0 y1 y2 y3 y4 y5 y6 y7 y8 y9 y10 y11 y12 y13 y14 y15 = some r) : runE C 46 [V.agg [V.int .i64 y1, V.int .i64 y2, V.sl y3 y4, V.sl y5 y6, V.sl y7 y8, V.sl y9 y10, V.int
 .i64 y11, V.bool y12, V.sl y13 y14, V.int .i64 y15]] = some r := ofR (j := 1) (F := fun s => T46 (orc C s.k) s.k s.m 0 0 y1 y2 y3 y4 y5 y6 y7 y8 y9 y10 y11 y12 y13 y14 y15) (fun _ => by kernel_rfl) (by
  unfold T46
  repeat' first | (with_reducible first | exact cC | refine cN cR fun _ => ?_ | refine cT fun _ => ?_ | refine cI fun _ => ?_ | refine cM ?_ | refine cF ?_ ?_ | refine cB fun _ => ?_ | refine cL fun _ _ => ?_ | refine cN cC fun _ => ?_ | exact cR)) h

noncomputable def T47 (O : Orc) (k m q0 q1 : Nat) (y1 y2 : Int) (y3 : Nat) (y4 : List V) (y5 : Nat) (y6 : List V) (y7 : Nat) (y8 : List V) (y9 : Nat) (y10 : List V) (y11 : Int) (y12 : Bool) (y13 : Nat) (y14 : List V) (y15 y16 : Int) : Option V := need (O.R 0 91 [V.int .i64 y16, V.int .i64 0, V.int .i64 (IntKind.i64.wrap (y2 + y11))]) fun x1 => asTup (some x1) fun x2 => PI.asBool
 x2[0]? fun x3 => some (V.tup [V.bool !x3])
theorem E47 (y1 y2 y3 y4 y5 y6 y7 y8 y9 y10 y11 y12 y13 y14 y15 y16) {r : V} (h : T47 (orcE C) 0 0 0 0 y1 y2 y3 y4 y5 y6 y7 y8 y9 y10 y11 y12 y13 y14 y15 y16 = some r) : runE C 47 [V.agg [V.int .i64 y1, V.int .i64 y2, V.sl y3 y4, V.sl y5 y6, V.sl y7 y8,
 V.sl y9 y10, V.int .i64 y11, V.bool y12, V.sl y13 y14, V.int .i64 y15], V.int .i64 y16] = some r := ofR (j := 1) (F := fun s => T47 (orc C s.k) s.k s.m 0 0 y1 y2 y3 y4 y5 y6 y7 y8 y9 y10 y11 y12 y13
 y14 y15 y16) (fun _ => by kernel_rfl) (by
  unfold T47
  repeat' first | (with_reducible first | exact cC | refine cN cR fun _ => ?_ | refine cT fun _ => ?_ | refine cB fun _ => ?_ | refine cN cC fun _ => ?_ | exact cR)) h

noncomputable def T14l1 (O : Orc) (k m q0 q1 : Nat) (y1 : Nat) (y2 : List V) (y3 y4 y5 y6 y7 : Int) (y8 : Nat) (y9 : List V) (y10 : Nat) (y11 : List V) (y12 : Nat) (y13
 : List V) (y14 : Nat) (y15 : List V) (y16 : Int) (y17 : Bool) (y18 : Nat) (y19 : List V) (y20 : Int) (y21 : Int) (y22 : Int) (y23 : Nat) (y24 : List V) (y25 : Nat) (y26 : List V) (y27 : Nat) (y28 :
 List V) (y29 : Nat) (y30 : List V) (y31 : Int) (y32 : Int) (y33 : Nat) (y34 : List V) (y35 : Nat) (y36 : List V) (y37 : Nat) (y38 : List V) (y39 : Nat) (y40 : List V) (y41 : Int) (y42 : Int) (y43 :
 Int) (y44 : Int) (y45 : Bool) (y46 : Int) (y47 : Nat) (y48 : List V) (y49 : Nat) (y50 : List V) (y51 : Nat) (y52 : List V) (y53 : Nat) (y54 : List V) (y55 : Nat) (y56 : List V) (y57 : Nat) (y58 : List
 V) : Option V := bif decide (y5 < y4) then must (inB y5 y57) (PI.asInt .i64 y58[y5.toNat * 6]? fun x1 => PI.asInt .i64 y58[y5.toNat * 6 + 1]? fun x2 => asSl y58[y5.toNat * 6 + 1 + 1]? fun x3 x4 =>
 asSl y58[y5.toNat * 6 + 1 + 1 + 1]? fun x5 x6 => asSl y58[y5.toNat * 6 + 1 + 1 + 1 + 1]? fun x7 x8 => asSl y58[y5.toNat * 6 + 1 + 1 + 1 + 1 + 1]? fun x9 x10 => bif y3 == 0 then need (O.R 0 48 [V.sl y1
 y2, V.agg [V.int .i64 x1, V.int .i64 x2, V.sl x3 x4, V.sl x5 x6, V.sl x7 x8, V.sl x9 x10]]) fun x11 => asTup (some x11) fun x12 => PI.asInt .i64 x12[0]? fun x13 => O.L 0 14 0 [true, true, true, false,
 true] [] m [(1, V.sl y1 y2), (5, V.ptr 0 0), (7, V.ptr 1 0), (8, V.ptr 2 0), (10, V.ptr 3 0), (11, V.int .i64 x13), (26, V.ref 9), (27, V.int .i64 y4), (28, V.int .i64 (IntKind.i64.wrap (y5 + 1)))]
 [Ob.box 38 [V.int .i64 y6, V.int .i64 y7, V.sl y8 y9, V.sl y10 y11, V.sl y12 y13, V.sl y14 y15, V.int .i64 y16, V.bool y17, V.sl y18 y19, V.int .i64 y20] false, Ob.box 46 [V.int .i64 y21, V.int .i64
 y22, V.sl y23 y24, V.sl y25 y26, V.sl y27 y28, V.sl y29 y30] false, Ob.box 46 [V.int .i64 y31, V.int .i64 y32, V.sl y33 y34, V.sl y35 y36, V.sl y37 y38, V.sl y39 y40] false, Ob.box 40 [V.int .i64 y41,
 V.int .i64 y42, V.int .i64 y43, V.ref 4, V.ref 5, V.ref 6, V.ref 7, V.int .i64 y44, V.bool y45, V.ref 8, V.int .i64 y46] false, Ob.row 5 y47 y48 false, Ob.row 5 y49 y50 false, Ob.row 5 y51 y52 false,
 Ob.row 78 y53 y54 false, Ob.nrow [] 22 y55 y56, Ob.row 46 y57 y58 false] else O.L 0 14 0 [true, true, true, false, true] [] m [(1, V.sl y1 y2), (5, V.ptr 0 0), (7, V.ptr 1 0), (8, V.ptr 2 0), (10,
 V.ptr 3 0), (11, V.int .i64 y3), (26, V.ref 9), (27, V.int .i64 y4), (28, V.int .i64 (IntKind.i64.wrap (y5 + 1)))] [Ob.box 38 [V.int .i64 y6, V.int .i64 y7, V.sl y8 y9, V.sl y10 y11, V.sl y12 y13,
 V.sl y14 y15, V.int .i64 y16, V.bool y17, V.sl y18 y19, V.int .i64 y20] false, Ob.box 46 [V.int .i64 y21, V.int .i64 y22, V.sl y23 y24, V.sl y25 y26, V.sl y27 y28, V.sl y29 y30] false, Ob.box 46
 [V.int .i64 y31, V.int .i64 y32, V.sl y33 y34, V.sl y35 y36, V.sl y37 y38, V.sl y39 y40] false, Ob.box 40 [V.int .i64 y41, V.int .i64 y42, V.int .i64 y43, V.ref 4, V.ref 5, V.ref 6, V.ref 7, V.int
 .i64 y44, V.bool y45, V.ref 8, V.int .i64 y46] false, Ob.row 5 y47 y48 false, Ob.row 5 y49 y50 false, Ob.row 5 y51 y52 false, Ob.row 78 y53 y54 false, Ob.nrow [] 22 y55 y56, Ob.row 46 y57 y58 false])
 else bif y3 != 0 then some (V.tup [V.int .i64 y3, V.int .i64 0, V.int .i64 0, V.osl 0 [], V.osl 0 [], V.osl 0 [], V.osl 0 [], V.int .i64 0, V.bool false, V.osl 0 [], V.int .i64 0]) else bif y21 != y31
 then some (V.tup [V.int .i64 1, V.int .i64 0, V.int .i64 0, V.osl 0 [], V.osl 0 [], V.osl 0 [], V.osl 0 [], V.int .i64 0, V.bool false, V.osl 0 [], V.int .i64 0]) else need (O.R 0 50 [V.agg [V.int
 .i64 y21, V.int .i64 y22, V.sl y23 y24, V.sl y25 y26, V.sl y27 y28]]) fun x14 => asTup (some x14) fun x15 => asSl x15[0]? fun x16 x17 => need (O.R 0 50 [V.agg [V.int .i64 y31, V.int .i64 y32, V.sl y33
 y34, V.sl y35 y36, V.sl y37 y38]]) fun x18 => asTup (some x18) fun x19 => asSl x19[0]? fun x20 x21 => need (O.R 0 49 [V.sl x16 x17, V.sl x20 x21]) fun x22 => asTup (some x22) fun x23 => PI.asBool
 x23[0]? fun x24 => bif x24 then some (V.tup [V.int .i64 1, V.int .i64 0, V.int .i64 0, V.osl 0 [], V.osl 0 [], V.osl 0 [], V.osl 0 [], V.int .i64 0, V.bool false, V.osl 0 [], V.int .i64 0]) else need
 (O.R 0 51 [V.agg [V.int .i64 y6, V.int .i64 y7, V.sl y8 y9, V.sl y10 y11, V.sl y12 y13, V.sl y14 y15, V.int .i64 y16, V.bool y17, V.sl y18 y19, V.int .i64 y20], V.sl y1 y2, V.agg [V.int .i64 y21,
 V.int .i64 y22, V.sl y23 y24, V.sl y25 y26, V.sl y27 y28, V.sl y29 y30]]) fun x25 => asTup (some x25) fun x26 => PI.asBool x26[0]? fun x27 => bif !x27 then some (V.tup [V.int .i64 6, V.int .i64 0,
 V.int .i64 0, V.osl 0 [], V.osl 0 [], V.osl 0 [], V.osl 0 [], V.int .i64 0, V.bool false, V.osl 0 [], V.int .i64 0]) else need (O.R 0 51 [V.agg [V.int .i64 y6, V.int .i64 y7, V.sl y8 y9, V.sl y10 y11,
 V.sl y12 y13, V.sl y14 y15, V.int .i64 y16, V.bool y17, V.sl y18 y19, V.int .i64 y20], V.sl y1 y2, V.agg [V.int .i64 y31, V.int .i64 y32, V.sl y33 y34, V.sl y35 y36, V.sl y37 y38, V.sl y39 y40]]) fun
 x28 => asTup (some x28) fun x29 => PI.asBool x29[0]? fun x30 => bif !x30 then some (V.tup [V.int .i64 6, V.int .i64 0, V.int .i64 0, V.osl 0 [], V.osl 0 [], V.osl 0 [], V.osl 0 [], V.int .i64 0,
 V.bool false, V.osl 0 [], V.int .i64 0]) else need (O.R 0 52 [V.agg [V.int .i64 y6, V.int .i64 y7, V.sl y8 y9, V.sl y10 y11, V.sl y12 y13, V.sl y14 y15, V.int .i64 y16, V.bool y17, V.sl y18 y19, V.int
 .i64 y20]]) fun x31 => asTup (some x31) fun x32 => PI.asInt .i64 x32[0]? fun x33 => PI.asInt .i64 x32[1]? fun x34 => asOsl x32[2]? fun x35 x36 => asOsl x32[3]? fun x37 x38 => asOsl x32[4]? fun x39 x40
 => asOsl x32[5]? fun x41 x42 => PI.asInt .i64 x32[6]? fun x43 => PI.asBool x32[7]? fun x44 => asOsl x32[8]? fun x45 x46 => PI.asInt .i64 x32[9]? fun x47 => must (false || x36.all flatV) (must (false
 || x38.all flatV) (must (false || x40.all flatV) (some (V.tup [V.int .i64 0, V.int .i64 x33, V.int .i64 x34, V.osl x35 x36, V.osl x37 x38, V.osl x39 x40, V.osl x41 x42, V.int .i64 x43, V.bool true,
 V.osl x45 x46, V.int .i64 x47]))))
theorem E14l1 (y1 y2 y3 y4 y5 y6 y7 y8 y9 y10 y11 y12 y13 y14 y15 y16 y17 y18 y19 y20 y21 y22 y23 y24 y25 y26 y27 y28 y29 y30) (y31
 : Int) (y32 : Int) (y33 : Nat) (y34 : List V) (y35 : Nat) (y36 : List V) (y37 : Nat) (y38 : List V) (y39 : Nat) (y40 : List V) (y41 : Int) (y42 : Int) (y43 : Int) (y44 : Int) (y45 : Bool) (y46 : Int)
 (y47 : Nat) (y48 : List V) (y49 : Nat) (y50 : List V) (y51 : Nat) (y52 : List V) (y53 : Nat) (y54 : List V) (y55 : Nat) (y56 : List V) (y57 : Nat) (y58 : List V) {r : V} (h : T14l1 (orcE C) 0 0 0 0 y1
 y2 y3 y4 y5 y6 y7 y8 y9 y10 y11 y12 y13 y14 y15 y16 y17 y18 y19 y20 y21 y22 y23 y24 y25 y26 y27 y28 y29 y30 y31 y32 y33 y34 y35 y36 y37 y38 y39 y40 y41 y42 y43 y44 y45 y46 y47 y48 y49 y50 y51 y52 y53
 y54 y55 y56 y57 y58 = some r) : loopE C 14 0 [true, true, true, false, true] [] [(1, V.sl y1 y2), (5, V.ptr 0 0), (7, V.ptr 1 0), (8, V.ptr 2 0), (10, V.ptr 3 0), (11, V.int .i64 y3), (26, V.ref 9),
 (27, V.int .i64 y4), (28, V.int .i64 y5)] [Ob.box 38 [V.int .i64 y6, V.int .i64 y7, V.sl y8 y9, V.sl y10 y11, V.sl y12 y13, V.sl y14 y15, V.int .i64 y16, V.bool y17, V.sl y18 y19, V.int .i64 y20]
 false, Ob.box 46 [V.int .i64 y21, V.int .i64 y22, V.sl y23 y24, V.sl y25 y26, V.sl y27 y28, V.sl y29 y30] false, Ob.box 46 [V.int .i64 y31, V.int .i64 y32, V.sl y33 y34, V.sl y35 y36, V.sl y37 y38,
 V.sl y39 y40] false, Ob.box 40 [V.int .i64 y41, V.int .i64 y42, V.int .i64 y43, V.ref 4, V.ref 5, V.ref 6, V.ref 7, V.int .i64 y44, V.bool y45, V.ref 8, V.int .i64 y46] false, Ob.row 5 y47 y48 false,
 Ob.row 5 y49 y50 false, Ob.row 5 y51 y52 false, Ob.row 78 y53 y54 false, Ob.nrow [] 22 y55 y56, Ob.row 46 y57 y58 false] = some r := ofL (j := 0) (F := fun s => T14l1 (orc C s.k) s.k s.m 0 0 y1 y2 y3
 y4 y5 y6 y7 y8 y9 y10 y11 y12 y13 y14 y15 y16 y17 y18 y19 y20 y21 y22 y23 y24 y25 y26 y27 y28 y29 y30 y31 y32 y33 y34 y35 y36 y37 y38 y39 y40 y41 y42 y43 y44 y45 y46 y47 y48 y49 y50 y51 y52 y53 y54
 y55 y56 y57 y58) (fs0 fun _ _ => by kernel_rfl) (by
  unfold T14l1
  repeat' first | (with_reducible first | exact cC | refine cN cR fun _ => ?_ | refine cT fun _ => ?_ | refine cI fun _ => ?_ | refine cM ?_ | refine cF ?_ ?_ | refine cB fun _ => ?_ | refine cL fun _ _ => ?_ | refine cO fun _ _ => ?_ | refine cN cC fun _ => ?_ | exact cR) | exact cD0 gM) h

noncomputable def T53 (O : Orc) (k m q0 q1 : Nat) (y1 y2 : Int) (y3 : Nat) (y4 : List V) (y5 : Nat) (y6 : List V) (y7 : Nat) (y8 : List V) (y9 y10 : Int) (y11 : Nat) (y12 : List V) (y13
 : Nat) (y14 : List V) (y15 : Nat) (y16 : List V) : Option V := bif y1 != y9 then some (V.tup [V.bool false]) else bif y2 != y10 then some (V.tup [V.bool false]) else need (O.R 0 104 [V.sl y3 y4, V.sl
 y11 y12]) fun x1 => asTup (some x1) fun x2 => PI.asBool x2[0]? fun x3 => bif !x3 then some (V.tup [V.bool false]) else need (O.R 0 104 [V.sl y5 y6, V.sl y13 y14]) fun x4 => asTup (some x4) fun x5 =>
 PI.asBool x5[0]? fun x6 => bif !x6 then some (V.tup [V.bool false]) else need (O.R 0 104 [V.sl y7 y8, V.sl y15 y16]) fun x7 => asTup (some x7) fun x8 => PI.asBool x8[0]? fun x9 => bif !x9 then some
 (V.tup [V.bool false]) else some (V.tup [V.bool true])
theorem E53 (y1 y2 y3 y4 y5 y6 y7 y8 y9 y10 y11 y12 y13 y14 y15 y16) {r : V} (h : T53 (orcE C) 0 0 0 0 y1 y2 y3 y4 y5 y6 y7 y8 y9 y10 y11 y12 y13 y14 y15 y16 = some r) : runE C 53 [V.agg [V.int .i64 y1, V.int .i64 y2, V.sl y3 y4, V.sl y5 y6, V.sl y7 y8],
 V.agg [V.int .i64 y9, V.int .i64 y10, V.sl y11 y12, V.sl y13 y14, V.sl y15 y16]] = some r := ofR (j := 1) (F := fun s => T53 (orc C s.k) s.k s.m 0 0 y1 y2 y3 y4 y5 y6 y7 y8 y9 y10 y11 y12 y13 y14 y15
 y16) (fun _ => by kernel_rfl) (by
  unfold T53
  repeat' first | (with_reducible first | exact cC | refine cN cR fun _ => ?_ | refine cT fun _ => ?_ | refine cF ?_ ?_ | refine cB fun _ => ?_ | refine cN cC fun _ => ?_ | exact cR)) h

noncomputable def T54 (O : Orc) (k m q0 q1 : Nat) (y1 : Nat) (y2 : List V) (y3 : Nat) (y4 : List V) : Option V := bif (↑y1 : Int) != (↑y3 : Int) then some (V.tup [V.bool false]) else O.L 0 54 0 [true,
 true, false, true] [] k [(0, V.sl y1 y2), (1, V.sl y3 y4), (5, V.int .i64 0)] []
theorem E54 (y1 y2 y3 y4) {r : V} (h : T54 (orcE C) 0 0 0 0 y1 y2 y3 y4 = some r) : runE C 54 [V.sl y1 y2, V.sl y3 y4] = some r := ofR (j := 1) (F := fun s => T54
 (orc C s.k) s.k s.m 0 0 y1 y2 y3 y4) (fun _ => by kernel_rfl) (by
  unfold T54
  repeat' first | (with_reducible first | exact cC | refine cF ?_ ?_) | exact cD0 gK) h

noncomputable def T17l1 (O : Orc) (k m q0 q1 : Nat) (y1 : Nat) (y2 : List V) (y3 : Nat) (y4 : List V) (y5 : Int) : Option V := bif decide (y5 < (↑y1 : Int)) then must (inB y5 y1) (asSl y2[y5.toNat *
 2]? fun x1 x2 => PI.asInt .i64 y2[y5.toNat * 2 + 1]? fun x3 => must (inB y5 y3) (asSl y4[y5.toNat * 2]? fun x4 x5 => PI.asInt .i64 y4[y5.toNat * 2 + 1]? fun x6 => need (O.R 0 55 [V.agg [V.sl x1 x2,
 V.int .i64 x3], V.agg [V.sl x4 x5, V.int .i64 x6]]) fun x7 => asTup (some x7) fun x8 => PI.asBool x8[0]? fun x9 => bif !x9 then some (V.tup [V.bool false]) else O.L 0 17 0 [true, true, false, true] []
 m [(0, V.sl y1 y2), (1, V.sl y3 y4), (5, V.int .i64 (IntKind.i64.wrap (y5 + 1)))] [])) else some (V.tup [V.bool true])
theorem E17l1 (y1 y2 y3 y4 y5) {r : V} (h : T17l1 (orcE C) 0 0 0 0 y1 y2 y3 y4 y5 = some r) : loopE C 17 0 [true, true, false, true] [] [(0, V.sl y1 y2), (1,
 V.sl y3 y4), (5, V.int .i64 y5)] [] = some r := ofL (j := 0) (F := fun s => T17l1 (orc C s.k) s.k s.m 0 0 y1 y2 y3 y4 y5) (fs0 fun _ _ => by kernel_rfl) (by
  unfold T17l1
  repeat' first | (with_reducible first | exact cC | refine cN cR fun _ => ?_ | refine cT fun _ => ?_ | refine cI fun _ => ?_ | refine cM ?_ | refine cF ?_ ?_ | refine cB fun _ => ?_ | refine cL fun _ _ => ?_ | refine cN cC fun _ => ?_ | exact cR) | exact cD0 gM) h

noncomputable def T56 (O : Orc) (k m q0 q1 : Nat) (y1 : Nat) (y2 : List V) (y3 : Nat) (y4 : List V) : Option V := bif (↑y1 : Int) != (↑y3 : Int) then some (V.tup [V.bool false]) else O.L 0 56 0 [true,
 true, false, true] [] k [(0, V.sl y1 y2), (1, V.sl y3 y4), (5, V.int .i64 0)] []
theorem E56 (y1 y2 y3 y4) {r : V} (h : T56 (orcE C) 0 0 0 0 y1 y2 y3 y4 = some r) : runE C 56 [V.sl y1 y2, V.sl y3 y4] = some r := ofR (j := 1) (F := fun s => T56
 (orc C s.k) s.k s.m 0 0 y1 y2 y3 y4) (fun _ => by kernel_rfl) (by
  unfold T56
  repeat' first | (with_reducible first | exact cC | refine cF ?_ ?_) | exact cD0 gK) h

noncomputable def T57 (O : Orc) (k m q0 q1 : Nat) (y1 y2 y3 : Int) (y4 : Nat) (y5 : List V) (y6 : Nat) (y7 : List V) (y8 : Nat) (y9 : List V) : Option V := need (O.W 0 59 [0] [V.ref 0,
 V.int .i64 y3] [Ob.row 5 y4 y5 false]) fun x1 => asTup (some x1) fun x2 => PI.asInt .i64 x2[0]? fun x3 => asOsl x2[1]? fun x4 x5 => need (O.W 0 59 [0] [V.ref 0, V.int .i64 x3] [Ob.row 5 y6 y7 false])
 fun x6 => asTup (some x6) fun x7 => PI.asInt .i64 x7[0]? fun x8 => asOsl x7[1]? fun x9 x10 => need (O.W 0 59 [0] [V.ref 0, V.int .i64 x8] [Ob.row 5 y8 y9 false]) fun x11 => asTup (some x11) fun x12 =>
 PI.asInt .i64 x12[0]? fun x13 => asOsl x12[1]? fun x14 x15 => must (false || x5.all flatV) (must (false || x10.all flatV) (must (false || x15.all flatV) (some (V.tup [V.int .i64 x13, V.osl x4 x5,
 V.osl x9 x10, V.osl x14 x15]))))
theorem E57 (y1 y2 y3 y4 y5 y6 y7 y8 y9) {r : V} (h : T57 (orcE C) 0 0 0 0 y1 y2 y3 y4 y5 y6 y7 y8 y9 = some r) : runWE C
 57 [0, 1, 2] [V.agg [V.int .i64 y1, V.int .i64 y2, V.ref 0, V.ref 1, V.ref 2], V.int .i64 y3] [Ob.row 5 y4 y5 false, Ob.row 5 y6 y7 false, Ob.row 5 y8 y9 false] = some r := ofW (j := 1) (F := fun s =>
 T57 (orc C s.k) s.k s.m 0 0 y1 y2 y3 y4 y5 y6 y7 y8 y9) (fun _ => by kernel_rfl) (by
  unfold T57
  repeat' first | (with_reducible first | exact cC | refine cN cQ fun _ => ?_ | refine cT fun _ => ?_ | refine cI fun _ => ?_ | refine cM ?_ | refine cO fun _ _ => ?_ | refine cN cC fun _ => ?_ | exact cQ)) h

noncomputable def T58 (O : Orc) (k m q0 q1 : Nat) (y1 : Int) (y2 : Nat) (y3 : List V) : Option V := O.X 0 58 [0] [Ob.nrow [] 22 0 []] 0 [true, false, true] [] k [(0, V.ref 0), (1, V.int .i64 y1), (5,
 V.int .i64 0)] [Ob.nrow [] 22 y2 y3]
theorem E58 (y1 y2 y3) {r : V} (h : T58 (orcE C) 0 0 0 0 y1 y2 y3 = some r) : runWE C 58 [0] [V.ref 0, V.int .i64 y1] [Ob.nrow [] 22 y2 y3] = some r := ofW (j := 1) (F := fun s
 => T58 (orc C s.k) s.k s.m 0 0 y1 y2 y3) (fun _ => by kernel_rfl) (by
  unfold T58
  repeat' first | with_reducible exact cC | exact cX0 gK) h

noncomputable def T20l1 (O : Orc) (k m q0 q1 : Nat) (y1 y2 : Int) (y3 : Nat) (y4 : List V) : Option V := bif decide (y2 < (↑y3 : Int)) then must (inB y2 y3) (asOwn false 5 1 y4[y2.toNat * 2 +
 0]? fun x1 x2 => need (O.W 0 59 [0] [V.ref 0, V.int .i64 y1] [Ob.row 5 x1 x2 false]) fun x3 => asTup (some x3) fun x4 => PI.asInt .i64 x4[0]? fun x5 => asOsl x4[1]? fun x6 x7 => must (x7.all flatV)
 (must (inB y2 y3) (must ([V.int .i64 x5].length.beq 1 && (y2.toNat * 2 + 1 + [V.int .i64 x5].length).ble (y4.set (y2.toNat * 2 + 0) (V.own false 5 1 x6 x7)).length) (O.X 0 20 [0] [Ob.nrow [] 78 0 []]
 0 [true, false, true] [] m [(0, V.ref 0), (1, V.int .i64 (IntKind.i64.wrap (x5 + 1))), (5, V.int .i64 (IntKind.i64.wrap (y2 + 1)))] [Ob.nrow [] 78 y3 (splice (y4.set (y2.toNat * 2 + 0) (V.own false 5
 1 x6 x7)) (y2.toNat * 2 + 1) [V.int .i64 x5])])))) else some (V.tup [V.int .i64 y1, V.osl y3 y4])
theorem E20l1 (y1 y2 y3 y4) {r : V} (h : T20l1 (orcE C) 0 0 0 0 y1 y2 y3 y4 = some r) : loopWE C 20 [0] [Ob.nrow [] 78 0 []] 0 [true, false, true] [] [(0, V.ref 0), (1,
 V.int .i64 y1), (5, V.int .i64 y2)] [Ob.nrow [] 78 y3 y4] = some r := ofX (j := 0) (F := fun s => T20l1 (orc C s.k) s.k s.m 0 0 y1 y2 y3 y4) (fs0 fun _ _ => by kernel_rfl) (by
  unfold T20l1
  repeat' first | (with_reducible first | exact cC | refine cN cQ fun _ => ?_ | refine cT fun _ => ?_ | refine cI fun _ => ?_ | refine cM ?_ | refine cF ?_ ?_ | refine cO fun _ _ => ?_ | refine cP fun _ _ => ?_ | refine cN cC fun _ => ?_ | exact cQ) | exact cX0 gM) h

noncomputable def T60 (O : Orc) (k m q0 q1 : Nat) (y1 : Int) (y2 : Nat) (y3 : List V) : Option V := O.X 0 60 [0] [Ob.nrow [] 110 0 []] 0 [true, false, true] [] k [(0, V.ref 0), (1, V.int .i64 y1), (5,
 V.int .i64 0)] [Ob.nrow [] 110 y2 y3]
theorem E60 (y1 y2 y3) {r : V} (h : T60 (orcE C) 0 0 0 0 y1 y2 y3 = some r) : runWE C 60 [0] [V.ref 0, V.int .i64 y1] [Ob.nrow [] 110 y2 y3] = some r := ofW (j := 1) (F := fun
 s => T60 (orc C s.k) s.k s.m 0 0 y1 y2 y3) (fun _ => by kernel_rfl) (by
  unfold T60
  repeat' first | with_reducible exact cC | exact cX0 gK) h

noncomputable def T61 (O : Orc) (k m q0 q1 : Nat) (y1 y2 : Int) (y3 : Nat) (y4 : List V) (y5 : Nat) (y6 : List V) (y7 : Nat) (y8 : List V) (y9 : Nat) (y10 : List V) (y11 : Int) (y12 : Bool) (y13 : Nat) (y14 : List V) (y15 y16 : Int) : Option V := need (O.R 0 106 [V.agg [V.int .i64 y1, V.int .i64 y2, V.sl y3 y4, V.sl y5 y6, V.sl y7 y8], V.int .i64 y16]) fun x1 => asTup (some x1)
 fun x2 => PI.asInt .i64 x2[0]? fun x3 => bif decide (x3 < 0) then some (V.tup [V.int .i64 (-1)]) else need (O.R 0 107 [V.sl y9 y10, V.int .i64 x3]) fun x4 => asTup (some x4) fun x5 => PI.asInt .i64
 x5[0]? fun x6 => bif decide (x6 < 0) then some (V.tup [V.int .i64 (-1)]) else need (O.R 0 108 [V.sl y13 y14, V.int .i64 x6]) fun x7 => asTup (some x7) fun x8 => PI.asInt .i64 x8[0]? fun x9 => bif
 decide (x9 < 0) then some (V.tup [V.int .i64 (-1)]) else some (V.tup [V.int .i64 x9])
theorem E61 (y1 y2 y3 y4 y5 y6 y7 y8 y9 y10 y11 y12 y13 y14 y15 y16) {r : V} (h : T61 (orcE C) 0 0 0 0 y1 y2 y3 y4 y5 y6 y7 y8 y9 y10 y11 y12 y13 y14 y15 y16 = some r) : runE C 61 [V.agg [V.int .i64 y1, V.int .i64 y2, V.sl y3 y4, V.sl y5 y6, V.sl y7 y8,
 V.sl y9 y10, V.int .i64 y11, V.bool y12, V.sl y13 y14, V.int .i64 y15], V.int .i64 y16] = some r := ofR (j := 1) (F := fun s => T61 (orc C s.k) s.k s.m 0 0 y1 y2 y3 y4 y5 y6 y7 y8 y9 y10 y11 y12 y13
 y14 y15 y16) (fun _ => by kernel_rfl) (by
  unfold T61
  repeat' first | (with_reducible first | exact cC | refine cN cR fun _ => ?_ | refine cT fun _ => ?_ | refine cI fun _ => ?_ | refine cF ?_ ?_ | refine cN cC fun _ => ?_ | exact cR)) h

noncomputable def T69 (O : Orc) (k m q0 q1 : Nat) (y1 : Nat) (y2 : List V) (y3 : Int) : Option V := bif decide (IntKind.i64.wrap (y3 - (↑y1 : Int)) < 0) then some (V.tup [V.int .i64 (-1)]) else some
 (V.tup [V.int .i64 (IntKind.i64.wrap (y3 - (↑y1 : Int)))])
theorem E69 (y1 y2 y3) {r : V} (h : T69 (orcE C) 0 0 0 0 y1 y2 y3 = some r) : runE C 69 [V.sl y1 y2, V.int .i64 y3] = some r := ofR (j := 1) (F := fun s => T69 (orc C s.k) s.k
 s.m 0 0 y1 y2 y3) (fun _ => by kernel_rfl) (by
  unfold T69
  repeat' first | (with_reducible first | exact cC | refine cF ?_ ?_)) h

noncomputable def T31l1 (O : Orc) (k m q0 q1 : Nat) (y1 : Nat) (y2 : List V) (y3 y4 : Int) : Option V := bif decide (y4 < (↑y1 : Int)) then must (inB y4 y1) (must (decide (y4.toNat * 1 <
 y2.length)) (asSl y2[y4.toNat * 1]? fun x1 x2 => need (O.R 0 69 [V.sl x1 x2, V.int .i64 y3]) fun x3 => asTup (some x3) fun x4 => PI.asInt .i64 x4[0]? fun x5 => bif decide (x5 < 0) then some (V.tup
 [V.int .i64 (-1)]) else O.L 0 31 0 [true, true, true, false, true] [] m [(0, V.sl y1 y2), (1, V.int .i64 x5), (5, V.int .i64 (IntKind.i64.wrap (y4 + 1)))] [])) else some (V.tup [V.int .i64 y3])
theorem E31l1 (y1 y2 y3 y4) {r : V} (h : T31l1 (orcE C) 0 0 0 0 y1 y2 y3 y4 = some r) : loopE C 31 0 [true, true, true, false, true] [] [(0, V.sl y1 y2), (1, V.int .i64
 y3), (5, V.int .i64 y4)] [] = some r := ofL (j := 0) (F := fun s => T31l1 (orc C s.k) s.k s.m 0 0 y1 y2 y3 y4) (fs0 fun _ _ => by kernel_rfl) (by
  unfold T31l1
  repeat' first | (with_reducible first | exact cC | refine cN cR fun _ => ?_ | refine cT fun _ => ?_ | refine cI fun _ => ?_ | refine cM ?_ | refine cF ?_ ?_ | refine cL fun _ _ => ?_ | refine cN cC fun _ => ?_ | exact cR) | exact cD0 gM) h

noncomputable def T32 (O : Orc) (k m q0 q1 : Nat) (y1 : Nat) (y2 : List V) (y3 y4 : Int) : Option V := need (O.R 0 69 [V.sl y1 y2, V.int .i64 y4]) fun x1 => asTup (some x1) fun x2 => PI.asInt
 .i64 x2[0]? fun x3 => bif decide (x3 < 0) then some (V.tup [V.int .i64 (-1)]) else some (V.tup [V.int .i64 x3])
theorem E32 (y1 y2 y3 y4) {r : V} (h : T32 (orcE C) 0 0 0 0 y1 y2 y3 y4 = some r) : runE C 32 [V.agg [V.sl y1 y2, V.int .i64 y3], V.int .i64 y4] = some r := ofR (j :=
 1) (F := fun s => T32 (orc C s.k) s.k s.m 0 0 y1 y2 y3 y4) (fun _ => by kernel_rfl) (by
  unfold T32
  repeat' first | (with_reducible first | exact cC | refine cN cR fun _ => ?_ | refine cT fun _ => ?_ | refine cI fun _ => ?_ | refine cF ?_ ?_ | refine cN cC fun _ => ?_ | exact cR)) h

noncomputable def T33l1 (O : Orc) (k m q0 q1 : Nat) (y1 : Nat) (y2 : List V) (y3 y4 : Int) : Option V := bif decide (y4 < (↑y1 : Int)) then must (inB y4 y1) (PI.asInt .i64 y2[y4.toNat * 6]? fun
 x1 => PI.asInt .i64 y2[y4.toNat * 6 + 1]? fun x2 => asSl y2[y4.toNat * 6 + 1 + 1]? fun x3 x4 => PI.asInt .i64 y2[y4.toNat * 6 + 1 + 1 + 1]? fun x5 => PI.asInt .i64 y2[y4.toNat * 6 + 1 + 1 + 1 + 1]?
 fun x6 => asSl y2[y4.toNat * 6 + 1 + 1 + 1 + 1 + 1]? fun x7 x8 => need (O.R 0 70 [V.agg [V.int .i64 x1, V.int .i64 x2, V.sl x3 x4, V.int .i64 x5, V.int .i64 x6, V.sl x7 x8], V.int .i64 y3]) fun x9 =>
 asTup (some x9) fun x10 => PI.asInt .i64 x10[0]? fun x11 => bif decide (x11 < 0) then some (V.tup [V.int .i64 (-1)]) else O.L 0 33 0 [true, true, true, false, true] [] m [(0, V.sl y1 y2), (1, V.int
 .i64 x11), (5, V.int .i64 (IntKind.i64.wrap (y4 + 1)))] []) else some (V.tup [V.int .i64 y3])
theorem E33l1 (y1 y2 y3 y4) {r : V} (h : T33l1 (orcE C) 0 0 0 0 y1 y2 y3 y4 = some r) : loopE C 33 0 [true, true, true, false, true] [] [(0, V.sl y1 y2), (1, V.int .i64
 y3), (5, V.int .i64 y4)] [] = some r := ofL (j := 0) (F := fun s => T33l1 (orc C s.k) s.k s.m 0 0 y1 y2 y3 y4) (fs0 fun _ _ => by kernel_rfl) (by
  unfold T33l1
  repeat' first | (with_reducible first | exact cC | refine cN cR fun _ => ?_ | refine cT fun _ => ?_ | refine cI fun _ => ?_ | refine cM ?_ | refine cF ?_ ?_ | refine cL fun _ _ => ?_ | refine cN cC fun _ => ?_ | exact cR) | exact cD0 gM) h

noncomputable def T86 (O : Orc) (k m q0 q1 : Nat) (y1 : Nat) (y2 : List V) : Option V := must (decide ((↑y1 : Int) = (↑y1 : Int)) && decide (0 ≤ (↑y1 : Int)) && decide ((↑y1 : Int) ≤ 140737488355328)
 && decide ((↑y1 : Int) * 1 ≤ 140737488355328)) (O.L 0 86 0 [true, true, false, true] [] k [(0, V.sl y1 y2), (3, V.ref 0), (4, V.int .i64 0)] [Ob.row 5 (↑y1 : Int).toNat (reps (↑y1 : Int).toNat [V.int
 .u8 0]) false])
theorem E86 (y1 y2) {r : V} (h : T86 (orcE C) 0 0 0 0 y1 y2 = some r) : runE C 86 [V.sl y1 y2] = some r := ofR (j := 1) (F := fun s => T86 (orc C s.k) s.k s.m 0 0 y1 y2) (fun _ => by
 kernel_rfl) (by
  unfold T86
  repeat' first | (with_reducible first | exact cC | refine cM ?_) | exact cD0 gK) h

noncomputable def T43l1 (O : Orc) (k m q0 q1 : Nat) (y1 : Nat) (y2 : List V) (y3 : Int) (y4 : Nat) (y5 : List V) : Option V := bif decide (y3 < (↑y1 : Int)) then must (inB y3 y1) (must (decide
 (y3.toNat * 1 < y2.length)) (asSl y2[y3.toNat * 1]? fun x1 x2 => need (O.R 0 86 [V.sl x1 x2]) fun x3 => asTup (some x3) fun x4 => asOsl x4[0]? fun x5 x6 => must (inB y3 y4) (must (x6.all flatV) (must
 ([V.own false 5 1 x5 x6].length.beq 1 && (y3.toNat * 1 + [V.own false 5 1 x5 x6].length).ble y5.length) (O.L 0 43 0 [true, true, false, true] [] m [(0, V.sl y1 y2), (3, V.ref 0), (4, V.int .i64
 (IntKind.i64.wrap (y3 + 1)))] [Ob.nrow [] 22 y4 (splice y5 (y3.toNat * 1) [V.own false 5 1 x5 x6])]))))) else some (V.tup [V.osl y4 y5])
theorem E43l1 (y1 y2 y3 y4 y5) {r : V} (h : T43l1 (orcE C) 0 0 0 0 y1 y2 y3 y4 y5 = some r) : loopE C 43 0 [true, true, false, true] [] [(0, V.sl y1 y2), (3,
 V.ref 0), (4, V.int .i64 y3)] [Ob.nrow [] 22 y4 y5] = some r := ofL (j := 0) (F := fun s => T43l1 (orc C s.k) s.k s.m 0 0 y1 y2 y3 y4 y5) (fs0 fun _ _ => by kernel_rfl) (by
  unfold T43l1
  repeat' first | (with_reducible first | exact cC | refine cN cR fun _ => ?_ | refine cT fun _ => ?_ | refine cM ?_ | refine cF ?_ ?_ | refine cL fun _ _ => ?_ | refine cO fun _ _ => ?_ | refine cN cC fun _ => ?_ | exact cR) | exact cD0 gM) h

noncomputable def T44 (O : Orc) (k m q0 q1 : Nat) (y1 : Nat) (y2 : List V) (y3 : Int) : Option V := need (O.R 0 86 [V.sl y1 y2]) fun x1 => asTup (some x1) fun x2 => asOsl x2[0]? fun x3 x4 => must
 (false || x4.all flatV) (some (V.tup [V.osl x3 x4, V.int .i64 y3]))
theorem E44 (y1 y2 y3) {r : V} (h : T44 (orcE C) 0 0 0 0 y1 y2 y3 = some r) : runE C 44 [V.agg [V.sl y1 y2, V.int .i64 y3]] = some r := ofR (j := 1) (F := fun s => T44 (orc C
 s.k) s.k s.m 0 0 y1 y2 y3) (fun _ => by kernel_rfl) (by
  unfold T44
  repeat' first | (with_reducible first | exact cC | refine cN cR fun _ => ?_ | refine cT fun _ => ?_ | refine cM ?_ | refine cO fun _ _ => ?_ | refine cN cC fun _ => ?_ | exact cR)) h

noncomputable def T45l1 (O : Orc) (k m q0 q1 : Nat) (y1 : Nat) (y2 : List V) (y3 : Int) (y4 : Nat) (y5 : List V) : Option V := bif decide (y3 < (↑y1 : Int)) then must (inB y3 y1) (PI.asInt .i64
 y2[y3.toNat * 6]? fun x1 => PI.asInt .i64 y2[y3.toNat * 6 + 1]? fun x2 => asSl y2[y3.toNat * 6 + 1 + 1]? fun x3 x4 => PI.asInt .i64 y2[y3.toNat * 6 + 1 + 1 + 1]? fun x5 => PI.asInt .i64 y2[y3.toNat *
 6 + 1 + 1 + 1 + 1]? fun x6 => asSl y2[y3.toNat * 6 + 1 + 1 + 1 + 1 + 1]? fun x7 x8 => need (O.R 0 87 [V.agg [V.int .i64 x1, V.int .i64 x2, V.sl x3 x4, V.int .i64 x5, V.int .i64 x6, V.sl x7 x8]]) fun
 x9 => asTup (some x9) fun x10 => PI.asInt .i64 x10[0]? fun x11 => PI.asInt .i64 x10[1]? fun x12 => asOsl x10[2]? fun x13 x14 => PI.asInt .i64 x10[3]? fun x15 => PI.asInt .i64 x10[4]? fun x16 => asOsl
 x10[5]? fun x17 x18 => must (inB y3 y4) (must ([V.int .i64 x11, V.int .i64 x12, V.own true 22 1 x13 x14, V.int .i64 x15, V.int .i64 x16, V.own true 22 1 x17 x18].length.beq 6 && (y3.toNat * 6 + [V.int
 .i64 x11, V.int .i64 x12, V.own true 22 1 x13 x14, V.int .i64 x15, V.int .i64 x16, V.own true 22 1 x17 x18].length).ble y5.length) (O.L 0 45 0 [true, true, false, true] [] m [(0, V.sl y1 y2), (3,
 V.ref 0), (4, V.int .i64 (IntKind.i64.wrap (y3 + 1)))] [Ob.nrow [] 110 y4 (splice y5 (y3.toNat * 6) [V.int .i64 x11, V.int .i64 x12, V.own true 22 1 x13 x14, V.int .i64 x15, V.int .i64 x16, V.own true
 22 1 x17 x18])]))) else some (V.tup [V.osl y4 y5])
theorem E45l1 (y1 y2 y3 y4 y5) {r : V} (h : T45l1 (orcE C) 0 0 0 0 y1 y2 y3 y4 y5 = some r) : loopE C 45 0 [true, true, false, true] [] [(0, V.sl y1 y2), (3,
 V.ref 0), (4, V.int .i64 y3)] [Ob.nrow [] 110 y4 y5] = some r := ofL (j := 0) (F := fun s => T45l1 (orc C s.k) s.k s.m 0 0 y1 y2 y3 y4 y5) (fs0 fun _ _ => by kernel_rfl) (by
  unfold T45l1
  repeat' first | (with_reducible first | exact cC | refine cN cR fun _ => ?_ | refine cT fun _ => ?_ | refine cI fun _ => ?_ | refine cM ?_ | refine cF ?_ ?_ | refine cL fun _ _ => ?_ | refine cO fun _ _ => ?_ | refine cN cC fun _ => ?_ | exact cR) | exact cD0 gM) h

noncomputable def T71 (O : Orc) (k m q0 q1 : Nat) (y1 y2 : Int) (y3 : Nat) (y4 : List V) (y5 : Nat) (y6 : List V) (y7 : Nat) (y8 : List V) : Option V := bif (↑y3 : Int) != 32 then some (V.tup
 [V.int .i64 1]) else bif (↑y5 : Int) != 32 then some (V.tup [V.int .i64 1]) else bif (↑y7 : Int) != 32 then some (V.tup [V.int .i64 1]) else need (O.R 0 74 [V.int .i64 y1, V.int .i64 1, V.int .i64
 1000000]) fun x1 => asTup (some x1) fun x2 => PI.asBool x2[0]? fun x3 => bif !x3 then some (V.tup [V.int .i64 3]) else need (O.R 0 74 [V.int .i64 y2, V.int .i64 0, V.int .i64 1099511627776]) fun x4 =>
 asTup (some x4) fun x5 => PI.asBool x5[0]? fun x6 => bif !x6 then some (V.tup [V.int .i64 3]) else some (V.tup [V.int .i64 0])
theorem E71 (y1 y2 y3 y4 y5 y6 y7 y8) {r : V} (h : T71 (orcE C) 0 0 0 0 y1 y2 y3 y4 y5 y6 y7 y8 = some r) : runE C 71 [V.agg
 [V.int .i64 y1, V.int .i64 y2, V.sl y3 y4, V.sl y5 y6, V.sl y7 y8]] = some r := ofR (j := 1) (F := fun s => T71 (orc C s.k) s.k s.m 0 0 y1 y2 y3 y4 y5 y6 y7 y8) (fun _ => by kernel_rfl) (by
  unfold T71
  repeat' first | (with_reducible first | exact cC | refine cN cR fun _ => ?_ | refine cT fun _ => ?_ | refine cF ?_ ?_ | refine cB fun _ => ?_ | refine cN cC fun _ => ?_ | exact cR)) h

noncomputable def T72 (O : Orc) (k m q0 q1 : Nat) (y1 : Nat) (y2 : List V) : Option V := bif (↑y1 : Int) == 0 then some (V.tup [V.int .i64 4]) else bif decide ((↑y1 : Int) > 5) then some (V.tup [V.int
 .i64 2]) else O.L 0 72 0 [true, true, true, false, true] [] k [(0, V.sl y1 y2), (3, V.int .i64 0)] []
theorem E72 (y1 y2) {r : V} (h : T72 (orcE C) 0 0 0 0 y1 y2 = some r) : runE C 72 [V.sl y1 y2] = some r := ofR (j := 1) (F := fun s => T72 (orc C s.k) s.k s.m 0 0 y1 y2) (fun _ => by
 kernel_rfl) (by
  unfold T72
  repeat' first | (with_reducible first | exact cC | refine cF ?_ ?_) | exact cD0 gK) h

noncomputable def T73 (O : Orc) (k m q0 q1 : Nat) (y1 : Nat) (y2 : List V) : Option V := O.L 0 73 0 [true, true, false, true] [] k [(0, V.sl y1 y2), (3, V.ref 0), (4, V.int .i64 0)] [Ob.row 22 0 []
 false]
theorem E73 (y1 y2) {r : V} (h : T73 (orcE C) 0 0 0 0 y1 y2 = some r) : runE C 73 [V.sl y1 y2] = some r := ofR (j := 1) (F := fun s => T73 (orc C s.k) s.k s.m 0 0 y1 y2) (fun _ => by
 kernel_rfl) (by
  unfold T73
  repeat' first | with_reducible exact cC | exact cD0 gK) h

noncomputable def T74 (O : Orc) (k m q0 q1 : Nat) (y1 y2 y3 : Int) : Option V := bif decide (y1 ≥ y2) then some (V.tup [V.bool (decide (y1 ≤ y3))]) else some (V.tup [V.bool false])
theorem E74 (y1 y2 y3) {r : V} (h : T74 (orcE C) 0 0 0 0 y1 y2 y3 = some r) : runE C 74 [V.int .i64 y1, V.int .i64 y2, V.int .i64 y3] = some r := ofR (j := 1) (F := fun s => T74
 (orc C s.k) s.k s.m 0 0 y1 y2 y3) (fun _ => by kernel_rfl) (by
  unfold T74
  repeat' first | (with_reducible first | exact cC | refine cF ?_ ?_)) h

noncomputable def T34l1 (O : Orc) (k m q0 q1 : Nat) (y1 y2 y3 y4 : Int) (y5 : Nat) (y6 : List V) (y7 : Nat) (y8 : List V) (y9 : Nat) (y10 : List V) (y11 : Nat) (y12 : List V) (y13 : Int) (y14 : Bool) (y15 : Nat) (y16 : List V) (y17 : Int) : Option V := bif decide (y2 < y1) then must (inB y2 y15) (must (decide (y2.toNat * 1 < y16.length)) (asSl y16[y2.toNat * 1]? fun x1 x2
 => bif (↑x1 : Int) != 32 then must (inB y2 y15) (must (decide (y2.toNat * 1 < y16.length)) (asSl y16[y2.toNat * 1]? fun x3 x4 => bif (↑x3 : Int) != 0 then some (V.tup [V.int .i64 1]) else O.L 0 34 0
 [true, true, true, true, true, true, true, true, false, true] [] m [(1, V.ptr 0 0), (5, V.int .i64 y1), (6, V.int .i64 (IntKind.i64.wrap (y2 + 1)))] [Ob.box 38 [V.int .i64 y3, V.int .i64 y4, V.sl y5
 y6, V.sl y7 y8, V.sl y9 y10, V.sl y11 y12, V.int .i64 y13, V.bool y14, V.sl y15 y16, V.int .i64 y17] false])) else O.L 0 34 0 [true, true, true, true, true, true, true, true, false, true] [] m [(1,
 V.ptr 0 0), (5, V.int .i64 y1), (6, V.int .i64 (IntKind.i64.wrap (y2 + 1)))] [Ob.box 38 [V.int .i64 y3, V.int .i64 y4, V.sl y5 y6, V.sl y7 y8, V.sl y9 y10, V.sl y11 y12, V.int .i64 y13, V.bool y14,
 V.sl y15 y16, V.int .i64 y17] false])) else must (inB (IntKind.i64.wrap (y1 - 1)) y15) (must (decide ((IntKind.i64.wrap (y1 - 1)).toNat * 1 < y16.length)) (asSl y16[(IntKind.i64.wrap (y1 - 1)).toNat *
 1]? fun x5 x6 => need (O.R 0 37 [V.sl x5 x6, V.sl y5 y6]) fun x7 => asTup (some x7) fun x8 => PI.asBool x8[0]? fun x9 => bif !x9 then some (V.tup [V.int .i64 1]) else some (V.tup [V.int .i64 0])))
theorem E34l1 (y1 y2 y3 y4 y5 y6 y7 y8 y9 y10 y11 y12 y13 y14 y15 y16 y17) {r : V} (h : T34l1 (orcE C) 0 0 0 0 y1 y2 y3 y4 y5 y6 y7 y8 y9 y10 y11 y12 y13 y14 y15 y16 y17 = some r) : loopE C 34 0 [true, true, true, true, true, true, true, true,
 false, true] [] [(1, V.ptr 0 0), (5, V.int .i64 y1), (6, V.int .i64 y2)] [Ob.box 38 [V.int .i64 y3, V.int .i64 y4, V.sl y5 y6, V.sl y7 y8, V.sl y9 y10, V.sl y11 y12, V.int .i64 y13, V.bool y14, V.sl
 y15 y16, V.int .i64 y17] false] = some r := ofL (j := 0) (F := fun s => T34l1 (orc C s.k) s.k s.m 0 0 y1 y2 y3 y4 y5 y6 y7 y8 y9 y10 y11 y12 y13 y14 y15 y16 y17) (fs0 fun _ _ => by kernel_rfl) (by
  unfold T34l1
  repeat' first | (with_reducible first | exact cC | refine cN cR fun _ => ?_ | refine cT fun _ => ?_ | refine cM ?_ | refine cF ?_ ?_ | refine cB fun _ => ?_ | refine cL fun _ _ => ?_ | refine cN cC fun _ => ?_ | exact cR) | exact cD0 gM) h

noncomputable def T36l1 (O : Orc) (k m q0 q1 : Nat) (y1 : Nat) (y2 : List V) (y3 : Nat) (y4 : List V) (y5 y6 y7 : Int) (y8 : Nat) (y9 : List V) (y10 : Nat) (y11 : List V) (y12 : Nat) (y13 : List V) (y14 : Nat) (y15 : List V) : Option V := bif decide (y5 < (↑y14 : Int)) then must (inB y5 y14) (PI.asInt .i64 y15[y5.toNat * 6]? fun x1 => PI.asInt .i64 y15[y5.toNat * 6 + 1]? fun x2 =>
 asSl y15[y5.toNat * 6 + 1 + 1]? fun x3 x4 => PI.asInt .i64 y15[y5.toNat * 6 + 1 + 1 + 1]? fun x5 => PI.asInt .i64 y15[y5.toNat * 6 + 1 + 1 + 1 + 1]? fun x6 => asSl y15[y5.toNat * 6 + 1 + 1 + 1 + 1 +
 1]? fun x7 x8 => need (O.R 0 74 [V.int .i64 x1, V.int .i64 0, V.int .i64 (IntKind.i64.wrap ((↑y1 : Int) - 1))]) fun x9 => asTup (some x9) fun x10 => PI.asBool x10[0]? fun x11 => bif !x11 then some
 (V.tup [V.int .i64 3]) else bif decide (y5 > 0) then must (inB (IntKind.i64.wrap (y5 - 1)) y14) (PI.asInt .i64 y15[(IntKind.i64.wrap (y5 - 1)).toNat * 6 + 0]? fun x12 => bif decide (x1 ≤ x12) then
 some (V.tup [V.int .i64 3]) else must (inB x1 y1) (must (decide (x1.toNat * 2 + 0 < y2.length)) (asSl y2[x1.toNat * 2 + 0]? fun x13 x14 => need (O.R 0 75 [V.sl x13 x14, V.sl y3 y4, V.agg [V.int .i64
 x2, V.sl x3 x4, V.int .i64 x5, V.int .i64 x6, V.sl x7 x8]]) fun x15 => asTup (some x15) fun x16 => PI.asBool x16[0]? fun x17 => bif !x17 then some (V.tup [V.int .i64 6]) else O.L 0 36 0 [true, true,
 true, true, true, true, false, true] [] m [(0, V.sl y1 y2), (3, V.ptr 0 0), (7, V.sl y3 y4), (8, V.int .i64 (IntKind.i64.wrap (y5 + 1)))] [Ob.box 46 [V.int .i64 y6, V.int .i64 y7, V.sl y8 y9, V.sl y10
 y11, V.sl y12 y13, V.sl y14 y15] false]))) else must (inB x1 y1) (must (decide (x1.toNat * 2 + 0 < y2.length)) (asSl y2[x1.toNat * 2 + 0]? fun x18 x19 => need (O.R 0 75 [V.sl x18 x19, V.sl y3 y4,
 V.agg [V.int .i64 x2, V.sl x3 x4, V.int .i64 x5, V.int .i64 x6, V.sl x7 x8]]) fun x20 => asTup (some x20) fun x21 => PI.asBool x21[0]? fun x22 => bif !x22 then some (V.tup [V.int .i64 6]) else O.L 0
 36 0 [true, true, true, true, true, true, false, true] [] m [(0, V.sl y1 y2), (3, V.ptr 0 0), (7, V.sl y3 y4), (8, V.int .i64 (IntKind.i64.wrap (y5 + 1)))] [Ob.box 46 [V.int .i64 y6, V.int .i64 y7,
 V.sl y8 y9, V.sl y10 y11, V.sl y12 y13, V.sl y14 y15] false]))) else some (V.tup [V.int .i64 0])
theorem E36l1 (y1 y2 y3 y4 y5 y6 y7 y8 y9 y10 y11 y12 y13 y14 y15) {r : V} (h : T36l1 (orcE C) 0 0 0 0 y1 y2 y3 y4 y5 y6 y7 y8 y9 y10 y11 y12 y13 y14 y15 = some r) : loopE C 36 0 [true, true, true, true, true, true, false, true] [] [(0, V.sl y1 y2), (3, V.ptr 0
 0), (7, V.sl y3 y4), (8, V.int .i64 y5)] [Ob.box 46 [V.int .i64 y6, V.int .i64 y7, V.sl y8 y9, V.sl y10 y11, V.sl y12 y13, V.sl y14 y15] false] = some r := ofL (j := 0) (F := fun s => T36l1 (orc C
 s.k) s.k s.m 0 0 y1 y2 y3 y4 y5 y6 y7 y8 y9 y10 y11 y12 y13 y14 y15) (fs0 fun _ _ => by kernel_rfl) (by
  unfold T36l1
  repeat' first | (with_reducible first | exact cC | refine cN cR fun _ => ?_ | refine cT fun _ => ?_ | refine cI fun _ => ?_ | refine cM ?_ | refine cF ?_ ?_ | refine cB fun _ => ?_ | refine cL fun _ _ => ?_ | refine cN cC fun _ => ?_ | exact cR) | exact cD0 gM) h

noncomputable def T79 (O : Orc) (k m q0 q1 : Nat) (y1 : Int) : Option V := O.L 0 79 0 [true, true, false, true] [] k [(0, V.int .i64 y1), (3, V.ref 0), (4, V.int .i64 6)] [Ob.row 5 0 [] false]
theorem E79 (y1) {r : V} (h : T79 (orcE C) 0 0 0 0 y1 = some r) : runE C 79 [V.int .i64 y1] = some r := ofR (j := 1) (F := fun s => T79 (orc C s.k) s.k s.m 0 0 y1) (fun _ => by kernel_rfl) (by
  unfold T79
  repeat' first | with_reducible exact cC | exact cD0 gK) h

noncomputable def T78 (O : Orc) (k m q0 q1 : Nat) (y1 : Nat) (y2 : List V) : Option V := O.L 0 78 0 [true, true, false, true] [] k [(0, V.sl y1 y2), (3, V.ref 0), (4, V.int .i64 0)] [Ob.row 5 0 []
 false]
theorem E78 (y1 y2) {r : V} (h : T78 (orcE C) 0 0 0 0 y1 y2 = some r) : runE C 78 [V.sl y1 y2] = some r := ofR (j := 1) (F := fun s => T78 (orc C s.k) s.k s.m 0 0 y1 y2) (fun _ => by
 kernel_rfl) (by
  unfold T78
  repeat' first | with_reducible exact cC | exact cD0 gK) h

noncomputable def T77 (O : Orc) (k m q0 q1 : Nat) (y1 : ByteArray) (y2 : Nat) (y3 : List V) : Option V := must (y1.size.ble 140737488355328) (must (decide ((bytesV y1.data.toList).length = y1.size *
 1)) (must (true && (1 + y1.size).ble 140737488355328 && ((1 + y1.size) * 1).ble 140737488355328) (must (decide (y3.length = y2 * 1)) (must (true && (1 + y1.size + y2).ble 140737488355328 && ((1 +
 y1.size + y2) * 1).ble 140737488355328) (need (O.R 0 117 [V.sl (1 + y1.size + y2) (V.int .u8 (IntKind.u8.wrap ((↑y1.size : Int).tmod 256)) :: bytesV y1.data.toList ++ y3)]) fun x1 => asTup (some x1)
 fun x2 => asOsl x2[0]? fun x3 x4 => must (false || x4.all flatV) (some (V.tup [V.osl x3 x4])))))))
theorem E77 (y1 y2 y3) {r : V} (h : T77 (orcE C) 0 0 0 0 y1 y2 y3 = some r) : runE C 77 [V.str y1, V.sl y2 y3] = some r := ofR (j := 1) (F := fun s => T77 (orc C s.k) s.k
 s.m 0 0 y1 y2 y3) (fun _ => by kernel_rfl) (by
  unfold T77
  repeat' first | (with_reducible first | exact cC | refine cN cR fun _ => ?_ | refine cT fun _ => ?_ | refine cM ?_ | refine cO fun _ _ => ?_ | refine cN cC fun _ => ?_ | exact cR)) h

noncomputable def T76 (O : Orc) (k m q0 q1 : Nat) (y1 : Nat) (y2 : List V) (y3 : Nat) (y4 : List V) : Option V := O.L 0 76 0 [true, false, true] [] k [(0, V.sl y1 y2), (1, V.sl y3 y4), (5, V.int .i64
 0)] []
theorem E76 (y1 y2 y3 y4) {r : V} (h : T76 (orcE C) 0 0 0 0 y1 y2 y3 y4 = some r) : runE C 76 [V.sl y1 y2, V.sl y3 y4] = some r := ofR (j := 1) (F := fun s => T76
 (orc C s.k) s.k s.m 0 0 y1 y2 y3 y4) (fun _ => by kernel_rfl) (by
  unfold T76
  repeat' first | with_reducible exact cC | exact cD0 gK) h

noncomputable def T80 (O : Orc) (k m q0 q1 : Nat) (y1 : Nat) (y2 : List V) (y3 y4 : Int) (y5 : Nat) (y6 : List V) (y7 : Nat) (y8 : List V) (y9 : Nat) (y10 : List V) (y11 : Nat) (y12 : List V) :
 Option V := O.L 0 80 0 [true, true, false, true] [] k [(0, V.sl y1 y2), (3, V.ptr 0 0), (5, V.int .i64 0), (6, V.int .i64 0)] [Ob.box 46 [V.int .i64 y3, V.int .i64 y4, V.sl y5 y6, V.sl y7 y8, V.sl y9
 y10, V.sl y11 y12] false]
theorem E80 (y1 y2 y3 y4 y5 y6 y7 y8 y9 y10 y11 y12) {r : V} (h : T80 (orcE C) 0 0 0 0 y1 y2
 y3 y4 y5 y6 y7 y8 y9 y10 y11 y12 = some r) : runE C 80 [V.sl y1 y2, V.agg [V.int .i64 y3, V.int .i64 y4, V.sl y5 y6, V.sl y7 y8, V.sl y9 y10, V.sl y11 y12]] = some r := ofR (j := 1) (F := fun s => T80
 (orc C s.k) s.k s.m 0 0 y1 y2 y3 y4 y5 y6 y7 y8 y9 y10 y11 y12) (fun _ => by kernel_rfl) (by
  unfold T80
  repeat' first | with_reducible exact cC | exact cD0 gK) h

noncomputable def T81 (O : Orc) (k m q0 q1 : Nat) (y1 : Nat) (y2 : List V) : Option V := O.L 0 81 0 [true, true, false, true] [] k [(0, V.sl y1 y2), (3, V.int .i64 0), (4, V.int .i64 0)] []
theorem E81 (y1 y2) {r : V} (h : T81 (orcE C) 0 0 0 0 y1 y2 = some r) : runE C 81 [V.sl y1 y2] = some r := ofR (j := 1) (F := fun s => T81 (orc C s.k) s.k s.m 0 0 y1 y2) (fun _ => by
 kernel_rfl) (by
  unfold T81
  repeat' first | with_reducible exact cC | exact cD0 gK) h

noncomputable def T82 (O : Orc) (k m q0 q1 : Nat) (y1 : Nat) (y2 : List V) (y3 : Nat) (y4 : List V) (y5 y6 : Int) (y7 : Nat) (y8 : List V) (y9 : Nat) (y10 : List V) (y11 : Nat) (y12 : List V) (y13 : Nat) (y14 : List V) : Option V := O.L 0 82 0 [true, true, false, true] [] k [(0, V.sl y1 y2), (1, V.sl y3 y4), (5, V.ptr 0 0), (7, V.int .i64 0), (8, V.int .i64 0)] [Ob.box 46 [V.int .i64 y5,
 V.int .i64 y6, V.sl y7 y8, V.sl y9 y10, V.sl y11 y12, V.sl y13 y14] false]
theorem E82 (y1 y2 y3 y4 y5 y6 y7 y8 y9 y10 y11 y12 y13 y14) {r : V} (h :
 T82 (orcE C) 0 0 0 0 y1 y2 y3 y4 y5 y6 y7 y8 y9 y10 y11 y12 y13 y14 = some r) : runE C 82 [V.sl y1 y2, V.sl y3 y4, V.agg [V.int .i64 y5, V.int .i64 y6, V.sl y7 y8, V.sl y9 y10, V.sl y11 y12, V.sl y13
 y14]] = some r := ofR (j := 1) (F := fun s => T82 (orc C s.k) s.k s.m 0 0 y1 y2 y3 y4 y5 y6 y7 y8 y9 y10 y11 y12 y13 y14) (fun _ => by kernel_rfl) (by
  unfold T82
  repeat' first | with_reducible exact cC | exact cD0 gK) h

noncomputable def T83 (O : Orc) (k m q0 q1 : Nat) (y1 y2 : Int) (y3 : Nat) (y4 : List V) (y5 : Nat) (y6 : List V) (y7 : Nat) (y8 : List V) : Option V := must (decide (y4.length = y3 * 1)) (must
 (true && (0 + y3).ble 140737488355328 && ((0 + y3) * 1).ble 140737488355328) (must (decide (y6.length = y5 * 1)) (must (true && (0 + y5).ble 140737488355328 && ((0 + y5) * 1).ble 140737488355328)
 (must (decide (y8.length = y7 * 1)) (must (true && (0 + y7).ble 140737488355328 && ((0 + y7) * 1).ble 140737488355328) (must (false || y4.all flatV) (must (false || y6.all flatV) (must (false ||
 y8.all flatV) (some (V.tup [V.int .i64 y1, V.int .i64 y2, V.osl (0 + y3) y4, V.osl (0 + y5) y6, V.osl (0 + y7) y8]))))))))))
theorem E83 (y1 y2 y3 y4 y5 y6 y7 y8) {r : V} (h : T83 (orcE C) 0 0 0 0 y1 y2 y3 y4 y5 y6 y7 y8 = some r) : runE C 83 [V.agg
 [V.int .i64 y1, V.int .i64 y2, V.sl y3 y4, V.sl y5 y6, V.sl y7 y8]] = some r := ofR (j := 1) (F := fun s => T83 (orc C s.k) s.k s.m 0 0 y1 y2 y3 y4 y5 y6 y7 y8) (fun _ => by kernel_rfl) (by
  unfold T83
  repeat' first | (with_reducible first | exact cC | refine cM ?_)) h

noncomputable def T84 (O : Orc) (k m q0 q1 : Nat) (y1 : Nat) (y2 : List V) : Option V := O.L 0 84 0 [true, true, false, true] [] k [(0, V.sl y1 y2), (3, V.ref 0), (4, V.int .i64 0)] [Ob.row 78 0 []
 false]
theorem E84 (y1 y2) {r : V} (h : T84 (orcE C) 0 0 0 0 y1 y2 = some r) : runE C 84 [V.sl y1 y2] = some r := ofR (j := 1) (F := fun s => T84 (orc C s.k) s.k s.m 0 0 y1 y2) (fun _ => by
 kernel_rfl) (by
  unfold T84
  repeat' first | with_reducible exact cC | exact cD0 gK) h

noncomputable def T85 (O : Orc) (k m q0 q1 : Nat) (y1 : Nat) (y2 : List V) : Option V := O.L 0 85 0 [true, true, false, true] [] k [(0, V.sl y1 y2), (3, V.ref 0), (4, V.int .i64 0)] [Ob.row 22 0 []
 false]
theorem E85 (y1 y2) {r : V} (h : T85 (orcE C) 0 0 0 0 y1 y2 = some r) : runE C 85 [V.sl y1 y2] = some r := ofR (j := 1) (F := fun s => T85 (orc C s.k) s.k s.m 0 0 y1 y2) (fun _ => by
 kernel_rfl) (by
  unfold T85
  repeat' first | with_reducible exact cC | exact cD0 gK) h

noncomputable def T88 (O : Orc) (k m q0 q1 : Nat) (y1 y2 : Int) (y3 : Nat) (y4 : List V) (y5 : Nat) (y6 : List V) (y7 : Nat) (y8 : List V) : Option V := need (O.R 0 119 [V.sl 3 [V.sl y3 y4,
 V.sl y5 y6, V.sl y7 y8]]) fun x1 => asTup (some x1) fun x2 => PI.asBool x2[0]? fun x3 => bif !x3 then some (V.tup [V.int .i64 1]) else need (O.R 0 91 [V.int .i64 y1, V.int .i64 1, V.int .i64 1000000])
 fun x4 => asTup (some x4) fun x5 => PI.asBool x5[0]? fun x6 => bif !x6 then some (V.tup [V.int .i64 3]) else need (O.R 0 91 [V.int .i64 y2, V.int .i64 0, V.int .i64 1099511627776]) fun x7 => asTup
 (some x7) fun x8 => PI.asBool x8[0]? fun x9 => bif !x9 then some (V.tup [V.int .i64 3]) else some (V.tup [V.int .i64 0])
theorem E88 (y1 y2 y3 y4 y5 y6 y7 y8) {r : V} (h : T88 (orcE C) 0 0 0 0 y1 y2 y3 y4 y5 y6 y7 y8 = some r) : runE C 88 [V.agg
 [V.int .i64 y1, V.int .i64 y2, V.sl y3 y4, V.sl y5 y6, V.sl y7 y8]] = some r := ofR (j := 1) (F := fun s => T88 (orc C s.k) s.k s.m 0 0 y1 y2 y3 y4 y5 y6 y7 y8) (fun _ => by kernel_rfl) (by
  unfold T88
  repeat' first | (with_reducible first | exact cC | refine cN cR fun _ => ?_ | refine cT fun _ => ?_ | refine cF ?_ ?_ | refine cB fun _ => ?_ | refine cN cC fun _ => ?_ | exact cR)) h

noncomputable def T89 (O : Orc) (k m q0 q1 : Nat) (y1 : Nat) (y2 : List V) : Option V := bif (↑y1 : Int) == 0 then some (V.tup [V.int .i64 4]) else bif decide ((↑y1 : Int) > 5) then some (V.tup [V.int
 .i64 2]) else O.L 0 89 1 [true, true, false, true] [] k [(0, V.sl y1 y2), (13, V.sl y1 y2), (14, V.int .i64 (↑y1 : Int)), (15, V.int .i64 0)] []
theorem E89 (y1 y2) {r : V} (h : T89 (orcE C) 0 0 0 0 y1 y2 = some r) : runE C 89 [V.sl y1 y2] = some r := ofR (j := 1) (F := fun s => T89 (orc C s.k) s.k s.m 0 0 y1 y2) (fun _ => by
 kernel_rfl) (by
  unfold T89
  repeat' first | (with_reducible first | exact cC | refine cF ?_ ?_) | exact cD0 gK) h

noncomputable def T90 (O : Orc) (k m q0 q1 : Nat) (y1 : Nat) (y2 : List V) : Option V := O.L 0 90 0 [true, true, false, true] [] k [(3, V.ref 0), (7, V.sl y1 y2), (8, V.int .i64 (↑y1 : Int)), (9, V.int
 .i64 0)] [Ob.row 22 0 [] false]
theorem E90 (y1 y2) {r : V} (h : T90 (orcE C) 0 0 0 0 y1 y2 = some r) : runE C 90 [V.sl y1 y2] = some r := ofR (j := 1) (F := fun s => T90 (orc C s.k) s.k s.m 0 0 y1 y2) (fun _ => by
 kernel_rfl) (by
  unfold T90
  repeat' first | with_reducible exact cC | exact cD0 gK) h

noncomputable def T49 (O : Orc) (k m q0 q1 : Nat) (y1 : Nat) (y2 : List V) (y3 : Nat) (y4 : List V) : Option V := must (y2.length.beq y1 && y2.all isU8) (must (y4.length.beq y3 && y4.all isU8) (some
 (V.tup [V.bool (strEq (packB y2) (packB y4))])))
theorem E49 (y1 y2 y3 y4) {r : V} (h : T49 (orcE C) 0 0 0 0 y1 y2 y3 y4 = some r) : runE C 49 [V.sl y1 y2, V.sl y3 y4] = some r := ofR (j := 1) (F := fun s => T49
 (orc C s.k) s.k s.m 0 0 y1 y2 y3 y4) (fun _ => by kernel_rfl) (by
  unfold T49
  repeat' first | (with_reducible first | exact cC | refine cM ?_)) h

noncomputable def T91 (O : Orc) (k m q0 q1 : Nat) (y1 y2 y3 : Int) : Option V := bif decide (y2 ≤ y1) then some (V.tup [V.bool (decide (y1 ≤ y3))]) else some (V.tup [V.bool false])
theorem E91 (y1 y2 y3) {r : V} (h : T91 (orcE C) 0 0 0 0 y1 y2 y3 = some r) : runE C 91 [V.int .i64 y1, V.int .i64 y2, V.int .i64 y3] = some r := ofR (j := 1) (F := fun s => T91
 (orc C s.k) s.k s.m 0 0 y1 y2 y3) (fun _ => by kernel_rfl) (by
  unfold T91
  repeat' first | (with_reducible first | exact cC | refine cF ?_ ?_)) h

noncomputable def T92 (O : Orc) (k m q0 q1 : Nat) (y1 : Nat) (y2 : List V) : Option V := need (O.R 0 121 [V.sl y1 y2, V.fn 93 []]) fun x1 => asTup (some x1) fun x2 => PI.asInt .i64 x2[0]? fun x3 =>
 some (V.tup [V.bool (decide (x3 ≥ 0))])
theorem E92 (y1 y2) {r : V} (h : T92 (orcE C) 0 0 0 0 y1 y2 = some r) : runE C 92 [V.sl y1 y2, V.fn 93 []] = some r := ofR (j := 1) (F := fun s => T92 (orc C s.k) s.k s.m 0 0 y1 y2)
 (fun _ => by kernel_rfl) (by
  unfold T92
  repeat' first | (with_reducible first | exact cC | refine cN cR fun _ => ?_ | refine cT fun _ => ?_ | refine cI fun _ => ?_ | refine cN cC fun _ => ?_ | exact cR)) h

noncomputable def T48 (O : Orc) (k m q0 q1 : Nat) (y1 : Nat) (y2 : List V) (y3 y4 : Int) (y5 : Nat) (y6 : List V) (y7 : Nat) (y8 : List V) (y9 : Nat) (y10 : List V) (y11 : Nat) (y12 : List V) :
 Option V := need (O.R 0 89 [V.sl y1 y2]) fun x1 => asTup (some x1) fun x2 => PI.asInt .i64 x2[0]? fun x3 => bif x3 != 0 then some (V.tup [V.int .i64 x3]) else need (O.R 0 88 [V.agg [V.int .i64 y3,
 V.int .i64 y4, V.sl y5 y6, V.sl y7 y8, V.sl y9 y10]]) fun x4 => asTup (some x4) fun x5 => PI.asInt .i64 x5[0]? fun x6 => bif x6 != 0 then some (V.tup [V.int .i64 x6]) else need (O.R 0 90 [V.sl y1 y2])
 fun x7 => asTup (some x7) fun x8 => asSl x8[0]? fun x9 x10 => need (O.R 0 49 [V.sl y7 y8, V.sl x9 x10]) fun x11 => asTup (some x11) fun x12 => PI.asBool x12[0]? fun x13 => bif !x13 then some (V.tup
 [V.int .i64 1]) else bif decide ((↑y11 : Int) > 5) then some (V.tup [V.int .i64 2]) else need (O.R 0 50 [V.agg [V.int .i64 y3, V.int .i64 y4, V.sl y5 y6, V.sl y7 y8, V.sl y9 y10]]) fun x14 => asTup
 (some x14) fun x15 => asSl x15[0]? fun x16 x17 => O.L 0 48 1 [true, true, true, true, true, false, true] [] k [(0, V.sl y1 y2), (7, V.int .i64 (-1)), (8, V.sl x16 x17), (39, V.sl y11 y12), (40, V.int
 .i64 (↑y11 : Int)), (41, V.int .i64 0)] []
theorem E48 (y1 y2 y3 y4 y5 y6 y7 y8 y9 y10 y11 y12) {r : V} (h : T48 (orcE C) 0 0 0 0 y1 y2
 y3 y4 y5 y6 y7 y8 y9 y10 y11 y12 = some r) : runE C 48 [V.sl y1 y2, V.agg [V.int .i64 y3, V.int .i64 y4, V.sl y5 y6, V.sl y7 y8, V.sl y9 y10, V.sl y11 y12]] = some r := ofR (j := 1) (F := fun s => T48
 (orc C s.k) s.k s.m 0 0 y1 y2 y3 y4 y5 y6 y7 y8 y9 y10 y11 y12) (fun _ => by kernel_rfl) (by
  unfold T48
  repeat' first | (with_reducible first | exact cC | refine cN cR fun _ => ?_ | refine cT fun _ => ?_ | refine cI fun _ => ?_ | refine cF ?_ ?_ | refine cB fun _ => ?_ | refine cL fun _ _ => ?_ | refine cN cC fun _ => ?_ | exact cR) | exact cD0 gK) h

noncomputable def T50 (O : Orc) (k m q0 q1 : Nat) (y1 y2 : Int) (y3 : Nat) (y4 : List V) (y5 : Nat) (y6 : List V) (y7 : Nat) (y8 : List V) : Option V := need (O.R 0 98 [V.int .i64 y1]) fun x1
 => asTup (some x1) fun x2 => asSl x2[0]? fun x3 x4 => need (O.R 0 98 [V.int .i64 y2]) fun x5 => asTup (some x5) fun x6 => asSl x6[0]? fun x7 x8 => need (O.R 0 97 [V.sl 5 [V.sl x3 x4, V.sl x7 x8, V.sl
 y3 y4, V.sl y5 y6, V.sl y7 y8]]) fun x9 => asTup (some x9) fun x10 => asSl x10[0]? fun x11 x12 => need (O.R 0 96 [V.str { data := #[(98 : UInt8), (102 : UInt8), (116 : UInt8)] }, V.sl 1 [V.sl x11
 x12]]) fun x13 => asTup (some x13) fun x14 => asOsl x14[0]? fun x15 x16 => some (V.tup [V.sl x15 x16])
theorem E50 (y1 y2 y3 y4 y5 y6 y7 y8) {r : V} (h : T50 (orcE C) 0 0 0 0 y1 y2 y3 y4 y5 y6 y7 y8 = some r) : runE C 50 [V.agg
 [V.int .i64 y1, V.int .i64 y2, V.sl y3 y4, V.sl y5 y6, V.sl y7 y8]] = some r := ofR (j := 1) (F := fun s => T50 (orc C s.k) s.k s.m 0 0 y1 y2 y3 y4 y5 y6 y7 y8) (fun _ => by kernel_rfl) (by
  unfold T50
  repeat' first | (with_reducible first | exact cC | refine cN cR fun _ => ?_ | refine cT fun _ => ?_ | refine cL fun _ _ => ?_ | refine cO fun _ _ => ?_ | refine cN cC fun _ => ?_ | exact cR)) h

noncomputable def T51 (O : Orc) (k m q0 q1 : Nat) (y1 y2 : Int) (y3 : Nat) (y4 : List V) (y5 : Nat) (y6 : List V) (y7 : Nat) (y8 : List V) (y9 : Nat) (y10 : List V) (y11 : Int) (y12 : Bool) (y13 : Nat) (y14 : List V) (y15 : Int) (y16 : Nat) (y17 : List V) (y18 y19 : Int) (y20 : Nat) (y21 : List V) (y22 : Nat) (y23 : List V) (y24 : Nat) (y25 : List V) (y26 : Nat) (y27 : List V) :
 Option V := need (O.R 0 66 [V.sl y16 y17, V.agg [V.int .i64 y18, V.int .i64 y19, V.sl y20 y21, V.sl y22 y23, V.sl y24 y25, V.sl y26 y27]]) fun x1 => asTup (some x1) fun x2 => PI.asBool x2[0]? fun x3
 => bif x3 then need (O.R 0 99 [V.sl y16 y17, V.sl y9 y10, V.agg [V.int .i64 y18, V.int .i64 y19, V.sl y20 y21, V.sl y22 y23, V.sl y24 y25, V.sl y26 y27]]) fun x4 => asTup (some x4) fun x5 => PI.asInt
 .i64 x5[0]? fun x6 => need (O.R 0 100 [V.sl y9 y10]) fun x7 => asTup (some x7) fun x8 => PI.asInt .i64 x8[0]? fun x9 => some (V.tup [V.bool (decide (IntKind.i64.wrap (3 * x6) > x9))]) else some (V.tup
 [V.bool false])
theorem E51 (y1 y2 y3 y4 y5 y6 y7 y8 y9 y10 y11 y12 y13 y14 y15 y16 y17 y18 y19 y20 y21 y22 y23 y24 y25 y26 y27) {r : V} (h : T51 (orcE C) 0 0 0 0 y1 y2
 y3 y4 y5 y6 y7 y8 y9 y10 y11 y12 y13 y14 y15 y16 y17 y18 y19 y20 y21 y22 y23 y24 y25 y26 y27 = some r) : runE C 51 [V.agg [V.int .i64 y1, V.int .i64 y2, V.sl y3 y4, V.sl y5 y6, V.sl y7 y8, V.sl y9
 y10, V.int .i64 y11, V.bool y12, V.sl y13 y14, V.int .i64 y15], V.sl y16 y17, V.agg [V.int .i64 y18, V.int .i64 y19, V.sl y20 y21, V.sl y22 y23, V.sl y24 y25, V.sl y26 y27]] = some r := ofR (j := 1)
 (F := fun s => T51 (orc C s.k) s.k s.m 0 0 y1 y2 y3 y4 y5 y6 y7 y8 y9 y10 y11 y12 y13 y14 y15 y16 y17 y18 y19 y20 y21 y22 y23 y24 y25 y26 y27) (fun _ => by kernel_rfl) (by
  unfold T51
  repeat' first | (with_reducible first | exact cC | refine cN cR fun _ => ?_ | refine cT fun _ => ?_ | refine cI fun _ => ?_ | refine cF ?_ ?_ | refine cB fun _ => ?_ | refine cN cC fun _ => ?_ | exact cR)) h

noncomputable def T52 (O : Orc) (k m q0 q1 : Nat) (y1 y2 : Int) (y3 : Nat) (y4 : List V) (y5 : Nat) (y6 : List V) (y7 : Nat) (y8 : List V) (y9 : Nat) (y10 : List V) (y11 : Int) (y12 : Bool) (y13 : Nat) (y14 : List V) (y15 : Int) : Option V := both (both (need (O.R 0 101 [V.agg [V.int .i64 y1, V.int .i64 y2, V.sl y3 y4, V.sl y5 y6, V.sl y7 y8]]) fun x1 => asTup (some x1) fun x2 =>
 PI.asInt .i64 x2[0]? fun x3 => PI.asInt .i64 x2[1]? fun x4 => asOsl x2[2]? fun x5 x6 => asOsl x2[3]? fun x7 x8 => asOsl x2[4]? fun x9 x10 => both (both (need (O.R 0 102 [V.sl y9 y10]) fun x11 => asTup
 (some x11) fun x12 => asOsl x12[0]? fun x13 x14 => need (O.R 0 103 [V.sl y13 y14]) fun x15 => asTup (some x15) fun x16 => asOsl x16[0]? fun x17 x18 => must (false || x6.all flatV) (must (false ||
 x8.all flatV) (must (false || x10.all flatV) (some (V.tup [V.int .i64 x3, V.int .i64 x4, V.osl x5 x6, V.osl x7 x8, V.osl x9 x10, V.osl x13 x14, V.int .i64 y11, V.bool y12, V.osl x17 x18, V.int .i64
 y15]))))) (need (O.R 0 102 [V.sl y9 y10]) fun x19 => asTup (some x19) fun x20 => asOsl x20[0]? fun x21 x22 => need (O.R 0 103 [V.sl y13 y14]) fun x23 => asTup (some x23) fun x24 => asOsl x24[0]? fun
 x25 x26 => must (false || x6.all flatV) (must (false || x8.all flatV) (must (false || x10.all flatV) (some (V.tup [V.int .i64 x3, V.int .i64 x4, V.osl x5 x6, V.osl x7 x8, V.osl x9 x10, V.osl x21 x22,
 V.int .i64 y11, V.bool y12, V.osl x25 x26, V.int .i64 y15])))))) (need (O.R 0 102 [V.sl y9 y10]) fun x27 => asTup (some x27) fun x28 => asOsl x28[0]? fun x29 x30 => need (O.R 0 103 [V.sl y13 y14]) fun
 x31 => asTup (some x31) fun x32 => asOsl x32[0]? fun x33 x34 => must (false || x6.all flatV) (must (false || x8.all flatV) (must (false || x10.all flatV) (some (V.tup [V.int .i64 x3, V.int .i64 x4,
 V.osl x5 x6, V.osl x7 x8, V.osl x9 x10, V.osl x29 x30, V.int .i64 y11, V.bool y12, V.osl x33 x34, V.int .i64 y15])))))) (both (both (need (O.R 0 101 [V.agg [V.int .i64 y1, V.int .i64 y2, V.sl y3 y4,
 V.sl y5 y6, V.sl y7 y8]]) fun x35 => asTup (some x35) fun x36 => PI.asInt .i64 x36[0]? fun x37 => PI.asInt .i64 x36[1]? fun x38 => asOsl x36[2]? fun x39 x40 => asOsl x36[3]? fun x41 x42 => asOsl
 x36[4]? fun x43 x44 => both (need (O.R 0 102 [V.sl y9 y10]) fun x45 => asTup (some x45) fun x46 => asOsl x46[0]? fun x47 x48 => need (O.R 0 103 [V.sl y13 y14]) fun x49 => asTup (some x49) fun x50 =>
 asOsl x50[0]? fun x51 x52 => must (false || x40.all flatV) (must (false || x42.all flatV) (must (false || x44.all flatV) (some (V.tup [V.int .i64 x37, V.int .i64 x38, V.osl x39 x40, V.osl x41 x42,
 V.osl x43 x44, V.osl x47 x48, V.int .i64 y11, V.bool y12, V.osl x51 x52, V.int .i64 y15]))))) (need (O.R 0 102 [V.sl y9 y10]) fun x53 => asTup (some x53) fun x54 => asOsl x54[0]? fun x55 x56 => need
 (O.R 0 103 [V.sl y13 y14]) fun x57 => asTup (some x57) fun x58 => asOsl x58[0]? fun x59 x60 => must (false || x40.all flatV) (must (false || x42.all flatV) (must (false || x44.all flatV) (some (V.tup
 [V.int .i64 x37, V.int .i64 x38, V.osl x39 x40, V.osl x41 x42, V.osl x43 x44, V.osl x55 x56, V.int .i64 y11, V.bool y12, V.osl x59 x60, V.int .i64 y15])))))) (need (O.R 0 101 [V.agg [V.int .i64 y1,
 V.int .i64 y2, V.sl y3 y4, V.sl y5 y6, V.sl y7 y8]]) fun x61 => asTup (some x61) fun x62 => PI.asInt .i64 x62[0]? fun x63 => PI.asInt .i64 x62[1]? fun x64 => asOsl x62[2]? fun x65 x66 => asOsl x62[3]?
 fun x67 x68 => asOsl x62[4]? fun x69 x70 => need (O.R 0 102 [V.sl y9 y10]) fun x71 => asTup (some x71) fun x72 => asOsl x72[0]? fun x73 x74 => need (O.R 0 103 [V.sl y13 y14]) fun x75 => asTup (some
 x75) fun x76 => asOsl x76[0]? fun x77 x78 => must (false || x66.all flatV) (must (false || x68.all flatV) (must (false || x70.all flatV) (some (V.tup [V.int .i64 x63, V.int .i64 x64, V.osl x65 x66,
 V.osl x67 x68, V.osl x69 x70, V.osl x73 x74, V.int .i64 y11, V.bool y12, V.osl x77 x78, V.int .i64 y15])))))) (both (need (O.R 0 101 [V.agg [V.int .i64 y1, V.int .i64 y2, V.sl y3 y4, V.sl y5 y6, V.sl
 y7 y8]]) fun x79 => asTup (some x79) fun x80 => PI.asInt .i64 x80[0]? fun x81 => PI.asInt .i64 x80[1]? fun x82 => asOsl x80[2]? fun x83 x84 => asOsl x80[3]? fun x85 x86 => asOsl x80[4]? fun x87 x88 =>
 need (O.R 0 102 [V.sl y9 y10]) fun x89 => asTup (some x89) fun x90 => asOsl x90[0]? fun x91 x92 => need (O.R 0 103 [V.sl y13 y14]) fun x93 => asTup (some x93) fun x94 => asOsl x94[0]? fun x95 x96 =>
 must (false || x84.all flatV) (must (false || x86.all flatV) (must (false || x88.all flatV) (some (V.tup [V.int .i64 x81, V.int .i64 x82, V.osl x83 x84, V.osl x85 x86, V.osl x87 x88, V.osl x91 x92,
 V.int .i64 y11, V.bool y12, V.osl x95 x96, V.int .i64 y15]))))) (need (O.R 0 101 [V.agg [V.int .i64 y1, V.int .i64 y2, V.sl y3 y4, V.sl y5 y6, V.sl y7 y8]]) fun x97 => asTup (some x97) fun x98 =>
 PI.asInt .i64 x98[0]? fun x99 => PI.asInt .i64 x98[1]? fun x100 => asOsl x98[2]? fun x101 x102 => asOsl x98[3]? fun x103 x104 => asOsl x98[4]? fun x105 x106 => need (O.R 0 102 [V.sl y9 y10]) fun x107
 => asTup (some x107) fun x108 => asOsl x108[0]? fun x109 x110 => need (O.R 0 103 [V.sl y13 y14]) fun x111 => asTup (some x111) fun x112 => asOsl x112[0]? fun x113 x114 => must (false || x102.all
 flatV) (must (false || x104.all flatV) (must (false || x106.all flatV) (some (V.tup [V.int .i64 x99, V.int .i64 x100, V.osl x101 x102, V.osl x103 x104, V.osl x105 x106, V.osl x109 x110, V.int .i64
 y11, V.bool y12, V.osl x113 x114, V.int .i64 y15])))))))) (both (both (both (need (O.R 0 101 [V.agg [V.int .i64 y1, V.int .i64 y2, V.sl y3 y4, V.sl y5 y6, V.sl y7 y8]]) fun x115 => asTup (some x115)
 fun x116 => PI.asInt .i64 x116[0]? fun x117 => PI.asInt .i64 x116[1]? fun x118 => asOsl x116[2]? fun x119 x120 => asOsl x116[3]? fun x121 x122 => asOsl x116[4]? fun x123 x124 => both (need (O.R 0 102
 [V.sl y9 y10]) fun x125 => asTup (some x125) fun x126 => asOsl x126[0]? fun x127 x128 => need (O.R 0 103 [V.sl y13 y14]) fun x129 => asTup (some x129) fun x130 => asOsl x130[0]? fun x131 x132 => must
 (false || x120.all flatV) (must (false || x122.all flatV) (must (false || x124.all flatV) (some (V.tup [V.int .i64 x117, V.int .i64 x118, V.osl x119 x120, V.osl x121 x122, V.osl x123 x124, V.osl x127
 x128, V.int .i64 y11, V.bool y12, V.osl x131 x132, V.int .i64 y15]))))) (need (O.R 0 102 [V.sl y9 y10]) fun x133 => asTup (some x133) fun x134 => asOsl x134[0]? fun x135 x136 => need (O.R 0 103 [V.sl
 y13 y14]) fun x137 => asTup (some x137) fun x138 => asOsl x138[0]? fun x139 x140 => must (false || x120.all flatV) (must (false || x122.all flatV) (must (false || x124.all flatV) (some (V.tup [V.int
 .i64 x117, V.int .i64 x118, V.osl x119 x120, V.osl x121 x122, V.osl x123 x124, V.osl x135 x136, V.int .i64 y11, V.bool y12, V.osl x139 x140, V.int .i64 y15])))))) (need (O.R 0 101 [V.agg [V.int .i64
 y1, V.int .i64 y2, V.sl y3 y4, V.sl y5 y6, V.sl y7 y8]]) fun x141 => asTup (some x141) fun x142 => PI.asInt .i64 x142[0]? fun x143 => PI.asInt .i64 x142[1]? fun x144 => asOsl x142[2]? fun x145 x146 =>
 asOsl x142[3]? fun x147 x148 => asOsl x142[4]? fun x149 x150 => need (O.R 0 102 [V.sl y9 y10]) fun x151 => asTup (some x151) fun x152 => asOsl x152[0]? fun x153 x154 => need (O.R 0 103 [V.sl y13 y14])
 fun x155 => asTup (some x155) fun x156 => asOsl x156[0]? fun x157 x158 => must (false || x146.all flatV) (must (false || x148.all flatV) (must (false || x150.all flatV) (some (V.tup [V.int .i64 x143,
 V.int .i64 x144, V.osl x145 x146, V.osl x147 x148, V.osl x149 x150, V.osl x153 x154, V.int .i64 y11, V.bool y12, V.osl x157 x158, V.int .i64 y15])))))) (need (O.R 0 101 [V.agg [V.int .i64 y1, V.int
 .i64 y2, V.sl y3 y4, V.sl y5 y6, V.sl y7 y8]]) fun x159 => asTup (some x159) fun x160 => PI.asInt .i64 x160[0]? fun x161 => PI.asInt .i64 x160[1]? fun x162 => asOsl x160[2]? fun x163 x164 => asOsl
 x160[3]? fun x165 x166 => asOsl x160[4]? fun x167 x168 => need (O.R 0 102 [V.sl y9 y10]) fun x169 => asTup (some x169) fun x170 => asOsl x170[0]? fun x171 x172 => need (O.R 0 103 [V.sl y13 y14]) fun
 x173 => asTup (some x173) fun x174 => asOsl x174[0]? fun x175 x176 => must (false || x164.all flatV) (must (false || x166.all flatV) (must (false || x168.all flatV) (some (V.tup [V.int .i64 x161,
 V.int .i64 x162, V.osl x163 x164, V.osl x165 x166, V.osl x167 x168, V.osl x171 x172, V.int .i64 y11, V.bool y12, V.osl x175 x176, V.int .i64 y15])))))) (both (both (need (O.R 0 101 [V.agg [V.int .i64
 y1, V.int .i64 y2, V.sl y3 y4, V.sl y5 y6, V.sl y7 y8]]) fun x177 => asTup (some x177) fun x178 => PI.asInt .i64 x178[0]? fun x179 => PI.asInt .i64 x178[1]? fun x180 => asOsl x178[2]? fun x181 x182 =>
 asOsl x178[3]? fun x183 x184 => asOsl x178[4]? fun x185 x186 => need (O.R 0 102 [V.sl y9 y10]) fun x187 => asTup (some x187) fun x188 => asOsl x188[0]? fun x189 x190 => need (O.R 0 103 [V.sl y13 y14])
 fun x191 => asTup (some x191) fun x192 => asOsl x192[0]? fun x193 x194 => must (false || x182.all flatV) (must (false || x184.all flatV) (must (false || x186.all flatV) (some (V.tup [V.int .i64 x179,
 V.int .i64 x180, V.osl x181 x182, V.osl x183 x184, V.osl x185 x186, V.osl x189 x190, V.int .i64 y11, V.bool y12, V.osl x193 x194, V.int .i64 y15]))))) (need (O.R 0 101 [V.agg [V.int .i64 y1, V.int
 .i64 y2, V.sl y3 y4, V.sl y5 y6, V.sl y7 y8]]) fun x195 => asTup (some x195) fun x196 => PI.asInt .i64 x196[0]? fun x197 => PI.asInt .i64 x196[1]? fun x198 => asOsl x196[2]? fun x199 x200 => asOsl
 x196[3]? fun x201 x202 => asOsl x196[4]? fun x203 x204 => need (O.R 0 102 [V.sl y9 y10]) fun x205 => asTup (some x205) fun x206 => asOsl x206[0]? fun x207 x208 => need (O.R 0 103 [V.sl y13 y14]) fun
 x209 => asTup (some x209) fun x210 => asOsl x210[0]? fun x211 x212 => must (false || x200.all flatV) (must (false || x202.all flatV) (must (false || x204.all flatV) (some (V.tup [V.int .i64 x197,
 V.int .i64 x198, V.osl x199 x200, V.osl x201 x202, V.osl x203 x204, V.osl x207 x208, V.int .i64 y11, V.bool y12, V.osl x211 x212, V.int .i64 y15])))))) (need (O.R 0 101 [V.agg [V.int .i64 y1, V.int
 .i64 y2, V.sl y3 y4, V.sl y5 y6, V.sl y7 y8]]) fun x213 => asTup (some x213) fun x214 => PI.asInt .i64 x214[0]? fun x215 => PI.asInt .i64 x214[1]? fun x216 => asOsl x214[2]? fun x217 x218 => asOsl
 x214[3]? fun x219 x220 => asOsl x214[4]? fun x221 x222 => need (O.R 0 102 [V.sl y9 y10]) fun x223 => asTup (some x223) fun x224 => asOsl x224[0]? fun x225 x226 => need (O.R 0 103 [V.sl y13 y14]) fun
 x227 => asTup (some x227) fun x228 => asOsl x228[0]? fun x229 x230 => must (false || x218.all flatV) (must (false || x220.all flatV) (must (false || x222.all flatV) (some (V.tup [V.int .i64 x215,
 V.int .i64 x216, V.osl x217 x218, V.osl x219 x220, V.osl x221 x222, V.osl x225 x226, V.int .i64 y11, V.bool y12, V.osl x229 x230, V.int .i64 y15])))))))
theorem E52 (y1 y2 y3 y4 y5 y6 y7 y8 y9 y10 y11 y12 y13 y14 y15) {r
 : V} (h : T52 (orcE C) 0 0 0 0 y1 y2 y3 y4 y5 y6 y7 y8 y9 y10 y11 y12 y13 y14 y15 = some r) : runE C 52 [V.agg [V.int .i64 y1, V.int .i64 y2, V.sl y3 y4, V.sl y5 y6, V.sl y7 y8, V.sl y9 y10, V.int
 .i64 y11, V.bool y12, V.sl y13 y14, V.int .i64 y15]] = some r := ofR (j := 1) (F := fun s => T52 (orc C s.k) s.k s.m 0 0 y1 y2 y3 y4 y5 y6 y7 y8 y9 y10 y11 y12 y13 y14 y15) (fun _ => by kernel_rfl) (by
  unfold T52
  repeat' first | (with_reducible first | exact cC | refine cN cR fun _ => ?_ | refine cT fun _ => ?_ | refine cI fun _ => ?_ | refine cM ?_ | refine cO fun _ _ => ?_ | refine cN cC fun _ => ?_ | refine cW ?_ ?_ | exact cR)) h

noncomputable def T104 (O : Orc) (k m q0 q1 : Nat) (y1 : Nat) (y2 : List V) (y3 : Nat) (y4 : List V) : Option V := bif (↑y1 : Int) != (↑y3 : Int) then some (V.tup [V.bool false]) else O.L 0 104 0
 [true, true, false, true] [] k [(0, V.sl y1 y2), (1, V.sl y3 y4), (5, V.int .i64 0)] []
theorem E104 (y1 y2 y3 y4) {r : V} (h : T104 (orcE C) 0 0 0 0 y1 y2 y3 y4 = some r) : runE C 104 [V.sl y1 y2, V.sl y3 y4] = some r := ofR (j := 1) (F := fun s =>
 T104 (orc C s.k) s.k s.m 0 0 y1 y2 y3 y4) (fun _ => by kernel_rfl) (by
  unfold T104
  repeat' first | (with_reducible first | exact cC | refine cF ?_ ?_) | exact cD0 gK) h

noncomputable def T54l1 (O : Orc) (k m q0 q1 : Nat) (y1 : Nat) (y2 : List V) (y3 : Nat) (y4 : List V) (y5 : Int) : Option V := bif decide (y5 < (↑y1 : Int)) then must (inB y5 y1) (must (decide
 (y5.toNat * 1 < y2.length)) (must (inB y5 y3) (must (decide (y5.toNat * 1 < y4.length)) (asSl y2[y5.toNat * 1]? fun x1 x2 => asSl y4[y5.toNat * 1]? fun x3 x4 => need (O.R 0 104 [V.sl x1 x2, V.sl x3
 x4]) fun x5 => asTup (some x5) fun x6 => PI.asBool x6[0]? fun x7 => bif !x7 then some (V.tup [V.bool false]) else O.L 0 54 0 [true, true, false, true] [] m [(0, V.sl y1 y2), (1, V.sl y3 y4), (5, V.int
 .i64 (IntKind.i64.wrap (y5 + 1)))] [])))) else some (V.tup [V.bool true])
theorem E54l1 (y1 y2 y3 y4 y5) {r : V} (h : T54l1 (orcE C) 0 0 0 0 y1 y2 y3 y4 y5 = some r) : loopE C 54 0 [true, true, false, true] [] [(0, V.sl y1 y2), (1,
 V.sl y3 y4), (5, V.int .i64 y5)] [] = some r := ofL (j := 0) (F := fun s => T54l1 (orc C s.k) s.k s.m 0 0 y1 y2 y3 y4 y5) (fs0 fun _ _ => by kernel_rfl) (by
  unfold T54l1
  repeat' first | (with_reducible first | exact cC | refine cN cR fun _ => ?_ | refine cT fun _ => ?_ | refine cM ?_ | refine cF ?_ ?_ | refine cB fun _ => ?_ | refine cL fun _ _ => ?_ | refine cN cC fun _ => ?_ | exact cR) | exact cD0 gM) h

noncomputable def T55 (O : Orc) (k m q0 q1 : Nat) (y1 : Nat) (y2 : List V) (y3 : Int) (y4 : Nat) (y5 : List V) (y6 : Int) : Option V := need (O.R 0 104 [V.sl y1 y2, V.sl y4 y5]) fun x1 => asTup (some
 x1) fun x2 => PI.asBool x2[0]? fun x3 => bif !x3 then some (V.tup [V.bool false]) else bif y3 != y6 then some (V.tup [V.bool false]) else some (V.tup [V.bool true])
theorem E55 (y1 y2 y3 y4 y5 y6) {r : V} (h : T55 (orcE C) 0 0 0 0 y1 y2 y3 y4 y5 y6 = some r) : runE C 55 [V.agg [V.sl y1 y2, V.int .i64 y3], V.agg
 [V.sl y4 y5, V.int .i64 y6]] = some r := ofR (j := 1) (F := fun s => T55 (orc C s.k) s.k s.m 0 0 y1 y2 y3 y4 y5 y6) (fun _ => by kernel_rfl) (by
  unfold T55
  repeat' first | (with_reducible first | exact cC | refine cN cR fun _ => ?_ | refine cT fun _ => ?_ | refine cF ?_ ?_ | refine cB fun _ => ?_ | refine cN cC fun _ => ?_ | exact cR)) h

noncomputable def T56l1 (O : Orc) (k m q0 q1 : Nat) (y1 : Nat) (y2 : List V) (y3 : Nat) (y4 : List V) (y5 : Int) : Option V := bif decide (y5 < (↑y1 : Int)) then must (inB y5 y1) (PI.asInt .i64
 y2[y5.toNat * 6]? fun x1 => PI.asInt .i64 y2[y5.toNat * 6 + 1]? fun x2 => asSl y2[y5.toNat * 6 + 1 + 1]? fun x3 x4 => PI.asInt .i64 y2[y5.toNat * 6 + 1 + 1 + 1]? fun x5 => PI.asInt .i64 y2[y5.toNat *
 6 + 1 + 1 + 1 + 1]? fun x6 => asSl y2[y5.toNat * 6 + 1 + 1 + 1 + 1 + 1]? fun x7 x8 => must (inB y5 y3) (PI.asInt .i64 y4[y5.toNat * 6]? fun x9 => PI.asInt .i64 y4[y5.toNat * 6 + 1]? fun x10 => asSl
 y4[y5.toNat * 6 + 1 + 1]? fun x11 x12 => PI.asInt .i64 y4[y5.toNat * 6 + 1 + 1 + 1]? fun x13 => PI.asInt .i64 y4[y5.toNat * 6 + 1 + 1 + 1 + 1]? fun x14 => asSl y4[y5.toNat * 6 + 1 + 1 + 1 + 1 + 1]?
 fun x15 x16 => need (O.R 0 105 [V.agg [V.int .i64 x1, V.int .i64 x2, V.sl x3 x4, V.int .i64 x5, V.int .i64 x6, V.sl x7 x8], V.agg [V.int .i64 x9, V.int .i64 x10, V.sl x11 x12, V.int .i64 x13, V.int
 .i64 x14, V.sl x15 x16]]) fun x17 => asTup (some x17) fun x18 => PI.asBool x18[0]? fun x19 => bif !x19 then some (V.tup [V.bool false]) else O.L 0 56 0 [true, true, false, true] [] m [(0, V.sl y1 y2),
 (1, V.sl y3 y4), (5, V.int .i64 (IntKind.i64.wrap (y5 + 1)))] [])) else some (V.tup [V.bool true])
theorem E56l1 (y1 y2 y3 y4 y5) {r : V} (h : T56l1 (orcE C) 0 0 0 0 y1 y2 y3 y4 y5 = some r) : loopE C 56 0 [true, true, false, true] [] [(0, V.sl y1 y2), (1,
 V.sl y3 y4), (5, V.int .i64 y5)] [] = some r := ofL (j := 0) (F := fun s => T56l1 (orc C s.k) s.k s.m 0 0 y1 y2 y3 y4 y5) (fs0 fun _ _ => by kernel_rfl) (by
  unfold T56l1
  repeat' first | (with_reducible first | exact cC | refine cN cR fun _ => ?_ | refine cT fun _ => ?_ | refine cI fun _ => ?_ | refine cM ?_ | refine cF ?_ ?_ | refine cB fun _ => ?_ | refine cL fun _ _ => ?_ | refine cN cC fun _ => ?_ | exact cR) | exact cD0 gM) h

noncomputable def T59 (O : Orc) (k m q0 q1 : Nat) (y1 : Int) (y2 : Nat) (y3 : List V) : Option V := O.X 0 59 [0] [Ob.row 5 0 [] false] 0 [true, false, true] [] k [(0, V.ref 0), (1, V.int .i64 y1), (5,
 V.int .i64 0)] [Ob.row 5 y2 y3 false]
theorem E59 (y1 y2 y3) {r : V} (h : T59 (orcE C) 0 0 0 0 y1 y2 y3 = some r) : runWE C 59 [0] [V.ref 0, V.int .i64 y1] [Ob.row 5 y2 y3 false] = some r := ofW (j := 1) (F := fun
 s => T59 (orc C s.k) s.k s.m 0 0 y1 y2 y3) (fun _ => by kernel_rfl) (by
  unfold T59
  repeat' first | with_reducible exact cC | exact cX0 gK) h

noncomputable def T58l1 (O : Orc) (k m q0 q1 : Nat) (y1 y2 : Int) (y3 : Nat) (y4 : List V) : Option V := bif decide (y2 < (↑y3 : Int)) then must (inB y2 y3) (asOwn false 5 1 y4[y2.toNat * 1]?
 fun x1 x2 => need (O.W 0 59 [0] [V.ref 0, V.int .i64 y1] [Ob.row 5 x1 x2 false]) fun x3 => asTup (some x3) fun x4 => PI.asInt .i64 x4[0]? fun x5 => asOsl x4[1]? fun x6 x7 => must (x7.all flatV) (O.X 0
 58 [0] [Ob.nrow [] 22 0 []] 0 [true, false, true] [] m [(0, V.ref 0), (1, V.int .i64 x5), (5, V.int .i64 (IntKind.i64.wrap (y2 + 1)))] [Ob.nrow [] 22 y3 (y4.set (y2.toNat * 1) (V.own false 5 1 x6
 x7))])) else some (V.tup [V.int .i64 y1, V.osl y3 y4])
theorem E58l1 (y1 y2 y3 y4) {r : V} (h : T58l1 (orcE C) 0 0 0 0 y1 y2 y3 y4 = some r) : loopWE C 58 [0] [Ob.nrow [] 22 0 []] 0 [true, false, true] [] [(0, V.ref 0), (1,
 V.int .i64 y1), (5, V.int .i64 y2)] [Ob.nrow [] 22 y3 y4] = some r := ofX (j := 0) (F := fun s => T58l1 (orc C s.k) s.k s.m 0 0 y1 y2 y3 y4) (fs0 fun _ _ => by kernel_rfl) (by
  unfold T58l1
  repeat' first | (with_reducible first | exact cC | refine cN cQ fun _ => ?_ | refine cT fun _ => ?_ | refine cI fun _ => ?_ | refine cM ?_ | refine cF ?_ ?_ | refine cO fun _ _ => ?_ | refine cP fun _ _ => ?_ | refine cN cC fun _ => ?_ | exact cQ) | exact cX0 gM) h

noncomputable def T60l1 (O : Orc) (k m q0 q1 : Nat) (y1 y2 : Int) (y3 : Nat) (y4 : List V) : Option V := bif decide (y2 < (↑y3 : Int)) then must (inB y2 y3) (must ([V.int .i64 y1].length.beq 1
 && (y2.toNat * 6 + 0 + [V.int .i64 y1].length).ble y4.length) (must (inB y2 y3) (must ([V.int .i64 (IntKind.i64.wrap (y1 + 1))].length.beq 1 && (y2.toNat * 6 + 1 + 0 + [V.int .i64 (IntKind.i64.wrap
 (y1 + 1))].length).ble (splice y4 (y2.toNat * 6 + 0) [V.int .i64 y1]).length) (must (inB y2 y3) (asOwn true 22 1 (splice (splice y4 (y2.toNat * 6 + 0) [V.int .i64 y1]) (y2.toNat * 6 + 1 + 0) [V.int
 .i64 (IntKind.i64.wrap (y1 + 1))])[y2.toNat * 6 + 1 + 1]? fun x1 x2 => need (O.W 0 58 [0] [V.ref 0, V.int .i64 (IntKind.i64.wrap (IntKind.i64.wrap (y1 + 1) + 1))] [Ob.nrow [] 22 x1 x2]) fun x3 =>
 asTup (some x3) fun x4 => PI.asInt .i64 x4[0]? fun x5 => asOsl x4[1]? fun x6 x7 => must (inB y2 y3) (must ([V.int .i64 x5].length.beq 1 && (y2.toNat * 6 + 1 + 2 + 0 + [V.int .i64 x5].length).ble
 ((splice (splice y4 (y2.toNat * 6 + 0) [V.int .i64 y1]) (y2.toNat * 6 + 1 + 0) [V.int .i64 (IntKind.i64.wrap (y1 + 1))]).set (y2.toNat * 6 + 1 + 1) (V.own true 22 1 x6 x7)).length) (must (inB y2 y3)
 (must ([V.int .i64 (IntKind.i64.wrap (x5 + 1))].length.beq 1 && (y2.toNat * 6 + 1 + 2 + 1 + [V.int .i64 (IntKind.i64.wrap (x5 + 1))].length).ble (splice ((splice (splice y4 (y2.toNat * 6 + 0) [V.int
 .i64 y1]) (y2.toNat * 6 + 1 + 0) [V.int .i64 (IntKind.i64.wrap (y1 + 1))]).set (y2.toNat * 6 + 1 + 1) (V.own true 22 1 x6 x7)) (y2.toNat * 6 + 1 + 2 + 0) [V.int .i64 x5]).length) (must (inB y2 y3)
 (asOwn true 22 1 (splice (splice ((splice (splice y4 (y2.toNat * 6 + 0) [V.int .i64 y1]) (y2.toNat * 6 + 1 + 0) [V.int .i64 (IntKind.i64.wrap (y1 + 1))]).set (y2.toNat * 6 + 1 + 1) (V.own true 22 1 x6
 x7)) (y2.toNat * 6 + 1 + 2 + 0) [V.int .i64 x5]) (y2.toNat * 6 + 1 + 2 + 1) [V.int .i64 (IntKind.i64.wrap (x5 + 1))])[y2.toNat * 6 + 1 + 2 + 2]? fun x8 x9 => need (O.W 0 58 [0] [V.ref 0, V.int .i64
 (IntKind.i64.wrap (IntKind.i64.wrap (x5 + 1) + 1))] [Ob.nrow [] 22 x8 x9]) fun x10 => asTup (some x10) fun x11 => PI.asInt .i64 x11[0]? fun x12 => asOsl x11[1]? fun x13 x14 => O.X 0 60 [0] [Ob.nrow []
 110 0 []] 0 [true, false, true] [] m [(0, V.ref 0), (1, V.int .i64 x12), (5, V.int .i64 (IntKind.i64.wrap (y2 + 1)))] [Ob.nrow [] 110 y3 ((splice (splice ((splice (splice y4 (y2.toNat * 6 + 0) [V.int
 .i64 y1]) (y2.toNat * 6 + 1 + 0) [V.int .i64 (IntKind.i64.wrap (y1 + 1))]).set (y2.toNat * 6 + 1 + 1) (V.own true 22 1 x6 x7)) (y2.toNat * 6 + 1 + 2 + 0) [V.int .i64 x5]) (y2.toNat * 6 + 1 + 2 + 1)
 [V.int .i64 (IntKind.i64.wrap (x5 + 1))]).set (y2.toNat * 6 + 1 + 2 + 2) (V.own true 22 1 x13 x14))])))))))))) else some (V.tup [V.int .i64 y1, V.osl y3 y4])
theorem E60l1 (y1 y2 y3 y4) {r : V} (h : T60l1 (orcE C) 0 0 0 0 y1 y2 y3 y4 = some r) : loopWE C 60 [0] [Ob.nrow [] 110 0 []] 0 [true, false, true] [] [(0, V.ref 0),
 (1, V.int .i64 y1), (5, V.int .i64 y2)] [Ob.nrow [] 110 y3 y4] = some r := ofX (j := 0) (F := fun s => T60l1 (orc C s.k) s.k s.m 0 0 y1 y2 y3 y4) (fs0 fun _ _ => by kernel_rfl) (by
  unfold T60l1
  repeat' first | (with_reducible first | exact cC | refine cN cQ fun _ => ?_ | refine cT fun _ => ?_ | refine cI fun _ => ?_ | refine cM ?_ | refine cF ?_ ?_ | refine cO fun _ _ => ?_ | refine cP fun _ _ => ?_ | refine cN cC fun _ => ?_ | exact cQ) | exact cX0 gM) h

noncomputable def T106 (O : Orc) (k m q0 q1 : Nat) (y1 y2 : Int) (y3 : Nat) (y4 : List V) (y5 : Nat) (y6 : List V) (y7 : Nat) (y8 : List V) (y9 : Int) : Option V := need (O.R 0 130 [V.sl y3 y4,
 V.int .i64 y9]) fun x1 => asTup (some x1) fun x2 => PI.asInt .i64 x2[0]? fun x3 => bif decide (x3 < 0) then some (V.tup [V.int .i64 (-1)]) else need (O.R 0 130 [V.sl y5 y6, V.int .i64 x3]) fun x4 =>
 asTup (some x4) fun x5 => PI.asInt .i64 x5[0]? fun x6 => bif decide (x6 < 0) then some (V.tup [V.int .i64 (-1)]) else need (O.R 0 130 [V.sl y7 y8, V.int .i64 x6]) fun x7 => asTup (some x7) fun x8 =>
 PI.asInt .i64 x8[0]? fun x9 => bif decide (x9 < 0) then some (V.tup [V.int .i64 (-1)]) else some (V.tup [V.int .i64 x9])
theorem E106 (y1 y2 y3 y4 y5 y6 y7 y8 y9) {r : V} (h : T106 (orcE C) 0 0 0 0 y1 y2 y3 y4 y5 y6 y7 y8 y9 = some r) : runE C
 106 [V.agg [V.int .i64 y1, V.int .i64 y2, V.sl y3 y4, V.sl y5 y6, V.sl y7 y8], V.int .i64 y9] = some r := ofR (j := 1) (F := fun s => T106 (orc C s.k) s.k s.m 0 0 y1 y2 y3 y4 y5 y6 y7 y8 y9) (fun _ =>
 by kernel_rfl) (by
  unfold T106
  repeat' first | (with_reducible first | exact cC | refine cN cR fun _ => ?_ | refine cT fun _ => ?_ | refine cI fun _ => ?_ | refine cF ?_ ?_ | refine cN cC fun _ => ?_ | exact cR)) h

noncomputable def T107 (O : Orc) (k m q0 q1 : Nat) (y1 : Nat) (y2 : List V) (y3 : Int) : Option V := O.L 0 107 0 [true, false, true] [] k [(0, V.sl y1 y2), (1, V.int .i64 y3), (5, V.int .i64 0)] []
theorem E107 (y1 y2 y3) {r : V} (h : T107 (orcE C) 0 0 0 0 y1 y2 y3 = some r) : runE C 107 [V.sl y1 y2, V.int .i64 y3] = some r := ofR (j := 1) (F := fun s => T107 (orc C s.k)
 s.k s.m 0 0 y1 y2 y3) (fun _ => by kernel_rfl) (by
  unfold T107
  repeat' first | with_reducible exact cC | exact cD0 gK) h

noncomputable def T108 (O : Orc) (k m q0 q1 : Nat) (y1 : Nat) (y2 : List V) (y3 : Int) : Option V := O.L 0 108 0 [true, false, true] [] k [(0, V.sl y1 y2), (1, V.int .i64 y3), (5, V.int .i64 0)] []
theorem E108 (y1 y2 y3) {r : V} (h : T108 (orcE C) 0 0 0 0 y1 y2 y3 = some r) : runE C 108 [V.sl y1 y2, V.int .i64 y3] = some r := ofR (j := 1) (F := fun s => T108 (orc C s.k)
 s.k s.m 0 0 y1 y2 y3) (fun _ => by kernel_rfl) (by
  unfold T108
  repeat' first | with_reducible exact cC | exact cD0 gK) h

noncomputable def T70 (O : Orc) (k m q0 q1 : Nat) (y1 y2 : Int) (y3 : Nat) (y4 : List V) (y5 y6 : Int) (y7 : Nat) (y8 : List V) (y9 : Int) : Option V := need (O.R 0 112 [V.agg [V.int
 .i64 y2, V.sl y3 y4, V.int .i64 y5, V.int .i64 y6, V.sl y7 y8], V.int .i64 y9]) fun x1 => asTup (some x1) fun x2 => PI.asInt .i64 x2[0]? fun x3 => bif decide (x3 < 0) then some (V.tup [V.int .i64
 (-1)]) else some (V.tup [V.int .i64 x3])
theorem E70 (y1 y2 y3 y4 y5 y6 y7 y8 y9) {r : V} (h : T70 (orcE C) 0 0 0 0 y1 y2 y3 y4 y5 y6 y7 y8 y9 = some r) : runE C 70
 [V.agg [V.int .i64 y1, V.int .i64 y2, V.sl y3 y4, V.int .i64 y5, V.int .i64 y6, V.sl y7 y8], V.int .i64 y9] = some r := ofR (j := 1) (F := fun s => T70 (orc C s.k) s.k s.m 0 0 y1 y2 y3 y4 y5 y6 y7 y8
 y9) (fun _ => by kernel_rfl) (by
  unfold T70
  repeat' first | (with_reducible first | exact cC | refine cN cR fun _ => ?_ | refine cT fun _ => ?_ | refine cI fun _ => ?_ | refine cF ?_ ?_ | refine cN cC fun _ => ?_ | exact cR)) h

noncomputable def T86l1 (O : Orc) (k m q0 q1 : Nat) (y1 : Nat) (y2 : List V) (y3 : Int) (y4 : Nat) (y5 : List V) : Option V := bif decide (y3 < (↑y1 : Int)) then must (inB y3 y1) (PI.asInt .u8
 y2[y3.toNat * 1]? fun x1 => must (inB y3 y4) (must ([V.int .u8 x1].length.beq 1 && (y3.toNat * 1 + [V.int .u8 x1].length).ble y5.length) (O.L 0 86 0 [true, true, false, true] [] m [(0, V.sl y1 y2),
 (3, V.ref 0), (4, V.int .i64 (IntKind.i64.wrap (y3 + 1)))] [Ob.row 5 y4 (splice y5 (y3.toNat * 1) [V.int .u8 x1]) false]))) else must (false || y5.all flatV) (some (V.tup [V.osl y4 y5]))
theorem E86l1 (y1 y2 y3 y4 y5) {r : V} (h : T86l1 (orcE C) 0 0 0 0 y1 y2 y3 y4 y5 = some r) : loopE C 86 0 [true, true, false, true] [] [(0, V.sl y1 y2), (3,
 V.ref 0), (4, V.int .i64 y3)] [Ob.row 5 y4 y5 false] = some r := ofL (j := 0) (F := fun s => T86l1 (orc C s.k) s.k s.m 0 0 y1 y2 y3 y4 y5) (fs0 fun _ _ => by kernel_rfl) (by
  unfold T86l1
  repeat' first | (with_reducible first | exact cC | refine cI fun _ => ?_ | refine cM ?_ | refine cF ?_ ?_) | exact cD0 gM) h

noncomputable def T87 (O : Orc) (k m q0 q1 : Nat) (y1 y2 : Int) (y3 : Nat) (y4 : List V) (y5 y6 : Int) (y7 : Nat) (y8 : List V) : Option V := need (O.R 0 118 [V.agg [V.int .i64 y2, V.sl
 y3 y4, V.int .i64 y5, V.int .i64 y6, V.sl y7 y8]]) fun x1 => asTup (some x1) fun x2 => PI.asInt .i64 x2[0]? fun x3 => asOsl x2[1]? fun x4 x5 => PI.asInt .i64 x2[2]? fun x6 => PI.asInt .i64 x2[3]? fun
 x7 => asOsl x2[4]? fun x8 x9 => some (V.tup [V.int .i64 y1, V.int .i64 x3, V.osl x4 x5, V.int .i64 x6, V.int .i64 x7, V.osl x8 x9])
theorem E87 (y1 y2 y3 y4 y5 y6 y7 y8) {r : V} (h : T87 (orcE C) 0 0 0 0 y1 y2 y3 y4 y5 y6 y7 y8 = some r) : runE C 87 [V.agg [V.int
 .i64 y1, V.int .i64 y2, V.sl y3 y4, V.int .i64 y5, V.int .i64 y6, V.sl y7 y8]] = some r := ofR (j := 1) (F := fun s => T87 (orc C s.k) s.k s.m 0 0 y1 y2 y3 y4 y5 y6 y7 y8) (fun _ => by kernel_rfl) (by
  unfold T87
  repeat' first | (with_reducible first | exact cC | refine cN cR fun _ => ?_ | refine cT fun _ => ?_ | refine cI fun _ => ?_ | refine cO fun _ _ => ?_ | refine cN cC fun _ => ?_ | exact cR)) h

noncomputable def T72l1 (O : Orc) (k m q0 q1 : Nat) (y1 : Nat) (y2 : List V) (y3 : Int) : Option V := bif decide (y3 < (↑y1 : Int)) then must (inB y3 y1) (must (decide (y3.toNat * 2 + 0 < y2.length))
 (asSl y2[y3.toNat * 2 + 0]? fun x1 x2 => bif (↑x1 : Int) != 32 then some (V.tup [V.int .i64 1]) else must (inB y3 y1) (PI.asInt .i64 y2[y3.toNat * 2 + 1]? fun x3 => need (O.R 0 74 [V.int .i64 x3,
 V.int .i64 1, V.int .i64 1000]) fun x4 => asTup (some x4) fun x5 => PI.asBool x5[0]? fun x6 => bif !x6 then some (V.tup [V.int .i64 3]) else O.L 0 72 2 [true, true, true, false, true, false, true,
 false, false, true, true, true] [m] k [(0, V.sl y1 y2), (3, V.int .i64 y3), (4, V.int .i64 0)] []))) else some (V.tup [V.int .i64 0])
theorem E72l1 (y1 y2 y3) {r : V} (h : T72l1 (orcE C) 0 0 0 0 y1 y2 y3 = some r) : loopE C 72 0 [true, true, true, false, true] [] [(0, V.sl y1 y2), (3, V.int .i64 y3)] [] =
 some r := ofL (j := 0) (F := fun s => T72l1 (orc C s.k) s.k s.m 0 0 y1 y2 y3) (fs0 fun _ _ => by kernel_rfl) (by
  unfold T72l1
  repeat' first | (with_reducible first | exact cC | refine cN cR fun _ => ?_ | refine cT fun _ => ?_ | refine cI fun _ => ?_ | refine cM ?_ | refine cF ?_ ?_ | refine cB fun _ => ?_ | refine cL fun _ _ => ?_ | refine cN cC fun _ => ?_ | exact cR) | exact cD1 gK gM) h

noncomputable def T73l1 (O : Orc) (k m q0 q1 : Nat) (y1 : Nat) (y2 : List V) (y3 : Int) (y4 : Nat) (y5 : List V) : Option V := bif decide (y3 < (↑y1 : Int)) then must (inB y3 y1) (must (decide
 (y3.toNat * 2 + 0 < y2.length)) (must (inB y3 y1) (PI.asInt .i64 y2[y3.toNat * 2 + 1]? fun x1 => need (O.R 0 79 [V.int .i64 x1]) fun x2 => asTup (some x2) fun x3 => asSl x3[0]? fun x4 x5 => asSl
 y2[y3.toNat * 2 + 0]? fun x6 x7 => must (true && (y4 + 2).ble 140737488355328 && ((y4 + 2) * 24).ble 140737488355328) (O.L 0 73 0 [true, true, false, true] [] m [(0, V.sl y1 y2), (3, V.ref 0), (4,
 V.int .i64 (IntKind.i64.wrap (y3 + 1)))] [Ob.row 22 (y4 + 2) (y5 ++ [V.sl x6 x7, V.sl x4 x5]) false])))) else need (O.R 0 78 [V.sl y4 y5]) fun x8 => asTup (some x8) fun x9 => asOsl x9[0]? fun x10 x11
 => need (O.R 0 77 [V.str { data := #[(115 : UInt8), (101 : UInt8), (116 : UInt8)] }, V.sl x10 x11]) fun x12 => asTup (some x12) fun x13 => asOsl x13[0]? fun x14 x15 => some (V.tup [V.sl x14 x15])
theorem E73l1 (y1 y2 y3 y4 y5) {r : V} (h : T73l1 (orcE C) 0 0 0 0 y1 y2 y3 y4 y5 = some r) : loopE C 73 0 [true, true, false, true] [] [(0, V.sl y1 y2), (3,
 V.ref 0), (4, V.int .i64 y3)] [Ob.row 22 y4 y5 false] = some r := ofL (j := 0) (F := fun s => T73l1 (orc C s.k) s.k s.m 0 0 y1 y2 y3 y4 y5) (fs0 fun _ _ => by kernel_rfl) (by
  unfold T73l1
  repeat' first | (with_reducible first | exact cC | refine cN cR fun _ => ?_ | refine cT fun _ => ?_ | refine cI fun _ => ?_ | refine cM ?_ | refine cF ?_ ?_ | refine cL fun _ _ => ?_ | refine cO fun _ _ => ?_ | refine cN cC fun _ => ?_ | exact cR) | exact cD0 gM) h

noncomputable def T75 (O : Orc) (k m q0 q1 : Nat) (y1 : Nat) (y2 : List V) (y3 : Nat) (y4 : List V) (y5 : Int) (y6 : Nat) (y7 : List V) (y8 y9 : Int) (y10 : Nat) (y11 : List V) : Option V :=
 need (O.R 0 113 [V.agg [V.int .i64 y5, V.sl y6 y7, V.int .i64 y8, V.int .i64 y9, V.sl y10 y11]]) fun x1 => asTup (some x1) fun x2 => PI.asBool x2[0]? fun x3 => bif !x3 then some (V.tup [V.bool false])
 else need (O.R 0 114 [V.sl y3 y4]) fun x4 => asTup (some x4) fun x5 => asOsl x5[0]? fun x6 x7 => O.L 0 75 0 [true, true, true, true, false, true] [] k [(0, V.sl y1 y2), (5, V.ptr 0 0), (7, V.ref 1),
 (8, V.ref 2), (9, V.int .i64 0)] [Ob.box 108 [V.int .i64 y5, V.sl y6 y7, V.int .i64 y8, V.int .i64 y9, V.sl y10 y11] false, Ob.row 2 x6 x7 false, Ob.row 5 0 [] false]
theorem E75 (y1 y2 y3 y4 y5 y6 y7 y8 y9 y10 y11) {r : V} (h : T75 (orcE C) 0 0 0 0 y1 y2 y3 y4 y5 y6 y7
 y8 y9 y10 y11 = some r) : runE C 75 [V.sl y1 y2, V.sl y3 y4, V.agg [V.int .i64 y5, V.sl y6 y7, V.int .i64 y8, V.int .i64 y9, V.sl y10 y11]] = some r := ofR (j := 1) (F := fun s => T75 (orc C s.k) s.k
 s.m 0 0 y1 y2 y3 y4 y5 y6 y7 y8 y9 y10 y11) (fun _ => by kernel_rfl) (by
  unfold T75
  repeat' first | (with_reducible first | exact cC | refine cN cR fun _ => ?_ | refine cT fun _ => ?_ | refine cF ?_ ?_ | refine cB fun _ => ?_ | refine cO fun _ _ => ?_ | refine cN cC fun _ => ?_ | exact cR) | exact cD0 gK) h

noncomputable def T79l1 (O : Orc) (k m q0 q1 : Nat) (y1 y2 : Int) (y3 : Nat) (y4 : List V) : Option V := bif decide (y2 ≥ 0) then must (decide (0 ≤ IntKind.u64.wrap (IntKind.i64.wrap (8 *
 y2)))) (must (true && (y3 + 1).ble 140737488355328 && ((y3 + 1) * 1).ble 140737488355328) (O.L 0 79 0 [true, true, false, true] [] m [(0, V.int .i64 y1), (3, V.ref 0), (4, V.int .i64 (IntKind.i64.wrap
 (y2 - 1)))] [Ob.row 5 (y3 + 1) (y4 ++ [V.int .u8 (IntKind.u8.wrap (y1.fdiv (2 ^ min (IntKind.u64.wrap (IntKind.i64.wrap (8 * y2))).toNat 64)))]) false])) else some (V.tup [V.sl y3 y4])
theorem E79l1 (y1 y2 y3 y4) {r : V} (h : T79l1 (orcE C) 0 0 0 0 y1 y2 y3 y4 = some r) : loopE C 79 0 [true, true, false, true] [] [(0, V.int .i64 y1), (3, V.ref 0), (4,
 V.int .i64 y2)] [Ob.row 5 y3 y4 false] = some r := ofL (j := 0) (F := fun s => T79l1 (orc C s.k) s.k s.m 0 0 y1 y2 y3 y4) (fs0 fun _ _ => by kernel_rfl) (by
  unfold T79l1
  repeat' first | (with_reducible first | exact cC | refine cM ?_ | refine cF ?_ ?_) | exact cD0 gM) h

noncomputable def T78l1 (O : Orc) (k m q0 q1 : Nat) (y1 : Nat) (y2 : List V) (y3 : Int) (y4 : Nat) (y5 : List V) : Option V := bif decide (y3 < (↑y1 : Int)) then must (inB y3 y1) (must (decide
 (y3.toNat * 1 < y2.length)) (asSl y2[y3.toNat * 1]? fun x1 x2 => must (inB y3 y1) (must (decide (y3.toNat * 1 < y2.length)) (must (true && (y4 + 1).ble 140737488355328 && ((y4 + 1) * 1).ble
 140737488355328) (asSl y2[y3.toNat * 1]? fun x3 x4 => must (decide (x4.length = x3 * 1)) (must (true && (y4 + 1 + x3).ble 140737488355328 && ((y4 + 1 + x3) * 1).ble 140737488355328) (O.L 0 78 0 [true,
 true, false, true] [] m [(0, V.sl y1 y2), (3, V.ref 0), (4, V.int .i64 (IntKind.i64.wrap (y3 + 1)))] [Ob.row 5 (y4 + 1 + x3) (y5 ++ [V.int .u8 (IntKind.u8.wrap (↑x1 : Int))] ++ x4) false]))))))) else
 must (false || y5.all flatV) (some (V.tup [V.osl y4 y5]))
theorem E78l1 (y1 y2 y3 y4 y5) {r : V} (h : T78l1 (orcE C) 0 0 0 0 y1 y2 y3 y4 y5 = some r) : loopE C 78 0 [true, true, false, true] [] [(0, V.sl y1 y2), (3,
 V.ref 0), (4, V.int .i64 y3)] [Ob.row 5 y4 y5 false] = some r := ofL (j := 0) (F := fun s => T78l1 (orc C s.k) s.k s.m 0 0 y1 y2 y3 y4 y5) (fs0 fun _ _ => by kernel_rfl) (by
  unfold T78l1
  repeat' first | (with_reducible first | exact cC | refine cM ?_ | refine cF ?_ ?_ | refine cL fun _ _ => ?_) | exact cD0 gM) h

noncomputable def T117 (O : Orc) (k m q0 q1 : Nat) (y1 : Nat) (y2 : List V) : Option V := need (O.R 0 136 []) fun x1 => PI.asAgg (some x1) fun x2 => must (x2.length.beq 64 && true && (0 +
 x2.length).ble 64 && flatB C 148 x2) (need (O.R 0 137 []) fun x3 => asTup (some x3) fun x4 => PI.asInt .i64 x4[0]? fun x5 => PI.asInt .i64 x4[1]? fun x6 => PI.asInt .i64 x4[2]? fun x7 => PI.asInt .i64
 x4[3]? fun x8 => PI.asInt .i64 x4[4]? fun x9 => PI.asInt .i64 x4[5]? fun x10 => PI.asInt .i64 x4[6]? fun x11 => PI.asInt .i64 x4[7]? fun x12 => need (O.R 0 138 [V.sl y1 y2]) fun x13 => asTup (some
 x13) fun x14 => asSl x14[0]? fun x15 x16 => O.L 0 117 0 [true, true, true, true, false, true] [] k [(3, V.ptr 0 0), (4, V.ptr 1 0), (5, V.sl x15 x16), (6, V.int .i64 0)] [Ob.box 148 (splice [V.int
 .i64 0, V.int .i64 0, V.int .i64 0, V.int .i64 0, V.int .i64 0, V.int .i64 0, V.int .i64 0, V.int .i64 0, V.int .i64 0, V.int .i64 0, V.int .i64 0, V.int .i64 0, V.int .i64 0, V.int .i64 0, V.int .i64
 0, V.int .i64 0, V.int .i64 0, V.int .i64 0, V.int .i64 0, V.int .i64 0, V.int .i64 0, V.int .i64 0, V.int .i64 0, V.int .i64 0, V.int .i64 0, V.int .i64 0, V.int .i64 0, V.int .i64 0, V.int .i64 0,
 V.int .i64 0, V.int .i64 0, V.int .i64 0, V.int .i64 0, V.int .i64 0, V.int .i64 0, V.int .i64 0, V.int .i64 0, V.int .i64 0, V.int .i64 0, V.int .i64 0, V.int .i64 0, V.int .i64 0, V.int .i64 0,
 V.int .i64 0, V.int .i64 0, V.int .i64 0, V.int .i64 0, V.int .i64 0, V.int .i64 0, V.int .i64 0, V.int .i64 0, V.int .i64 0, V.int .i64 0, V.int .i64 0, V.int .i64 0, V.int .i64 0, V.int .i64 0,
 V.int .i64 0, V.int .i64 0, V.int .i64 0, V.int .i64 0, V.int .i64 0, V.int .i64 0, V.int .i64 0] 0 x2) false, Ob.box 150 [V.int .i64 x5, V.int .i64 x6, V.int .i64 x7, V.int .i64 x8, V.int .i64 x9,
 V.int .i64 x10, V.int .i64 x11, V.int .i64 x12] false])
theorem E117 (y1 y2) {r : V} (h : T117 (orcE C) 0 0 0 0 y1 y2 = some r) : runE C 117 [V.sl y1 y2] = some r := ofR (j := 1) (F := fun s => T117 (orc C s.k) s.k s.m 0 0 y1 y2) (fun _ =>
 by kernel_rfl) (by
  unfold T117
  repeat' first | (with_reducible first | exact cC | refine cN cR fun _ => ?_ | refine cT fun _ => ?_ | refine cI fun _ => ?_ | refine cM ?_ | refine cL fun _ _ => ?_ | refine cA fun _ => ?_ | refine cN cC fun _ => ?_ | exact cR) | exact cD0 gK) h

noncomputable def T76l1 (O : Orc) (k m q0 q1 : Nat) (y1 : Nat) (y2 : List V) (y3 : Nat) (y4 : List V) (y5 : Int) : Option V := bif decide (y5 < (↑y1 : Int)) then bif decide (y5 < (↑y3 : Int)) then must
 (inB y5 y1) (PI.asInt .u8 y2[y5.toNat * 1]? fun x1 => must (inB y5 y3) (PI.asInt .u8 y4[y5.toNat * 1]? fun x2 => bif decide (x1 < x2) then some (V.tup [V.int .i64 (-1)]) else must (inB y5 y1)
 (PI.asInt .u8 y2[y5.toNat * 1]? fun x3 => must (inB y5 y3) (PI.asInt .u8 y4[y5.toNat * 1]? fun x4 => bif decide (x3 > x4) then some (V.tup [V.int .i64 1]) else O.L 0 76 0 [true, false, true] [] m [(0,
 V.sl y1 y2), (1, V.sl y3 y4), (5, V.int .i64 (IntKind.i64.wrap (y5 + 1)))] [])))) else bif decide ((↑y1 : Int) < (↑y3 : Int)) then some (V.tup [V.int .i64 (-1)]) else bif decide ((↑y1 : Int) > (↑y3 :
 Int)) then some (V.tup [V.int .i64 1]) else some (V.tup [V.int .i64 0]) else bif decide ((↑y1 : Int) < (↑y3 : Int)) then some (V.tup [V.int .i64 (-1)]) else bif decide ((↑y1 : Int) > (↑y3 : Int)) then
 some (V.tup [V.int .i64 1]) else some (V.tup [V.int .i64 0])
theorem E76l1 (y1 y2 y3 y4 y5) {r : V} (h : T76l1 (orcE C) 0 0 0 0 y1 y2 y3 y4 y5 = some r) : loopE C 76 0 [true, false, true] [] [(0, V.sl y1 y2), (1, V.sl
 y3 y4), (5, V.int .i64 y5)] [] = some r := ofL (j := 0) (F := fun s => T76l1 (orc C s.k) s.k s.m 0 0 y1 y2 y3 y4 y5) (fs0 fun _ _ => by kernel_rfl) (by
  unfold T76l1
  repeat' first | (with_reducible first | exact cC | refine cI fun _ => ?_ | refine cM ?_ | refine cF ?_ ?_) | exact cD0 gM) h

end Go.Proofs.YtgbpimaidhhnjaaGreat.EqV

