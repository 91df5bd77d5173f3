/-
  The functions of a table, as the interpreter tells them. Printed by a program.
-/
import Derived.Test.YtgbpimaidhhnjaaGreatPITabX
import Derived.Test.YtgbpimaidhhnjaaGreatPIPlain
import Derived.KernelRfl
noncomputable section
namespace Go.Proofs.YtgbpimaidhhnjaaGreat.EqX
open Go Go.PI V IntKind
set_option maxRecDepth 100000
set_option maxHeartbeats 4000000
set_option linter.unusedVariables false
set_option linter.unusedSimpArgs false
noncomputable abbrev C := tabX.cfg
def T4 (O : Orc) (y1 y2 : Int) (y3 : Nat) (y4 : List V) (y5 : Nat) (y6 : List V) (y7 : Nat) (y8 : List V) (y9 : Nat) (y10 : List V) (y11 : Int) (y12 : Bool) (y13
 : Nat) (y14 : List V) (y15 : Int) (y16 : Int) (y17 : Int) (y18 : Nat) (y19 : List V) (y20 : Nat) (y21 : List V) (y22 : Nat) (y23 : List V) (y24 : Nat) (y25 : List V) (y26 : Nat) (y27 : List V) (y28 :
 Int) : Option V := need (O.R 0 7 [agg [int .i64 y1, int .i64 y2, sl y3 y4, sl y5 y6, sl y7 y8, sl y9 y10, int .i64 y11, bool y12, sl y13 y14, int .i64 y15], int .i64 1048576])
 fun x1 => asTup (some x1) fun x2 => PI.asInt .i64 x2[0]? fun x3 => bif decide (x3 < 0) then some (tup [bool true]) else need (O.R 0 9 [agg [int .i64 y16, int .i64 y17, sl y18 y19, sl y20
 y21, sl y22 y23, sl y24 y25], int .i64 x3]) fun x4 => asTup (some x4) fun x5 => PI.asInt .i64 x5[0]? fun x6 => bif decide (x6 < 0) then some (tup [bool true]) else need (O.R 0 8 [sl y26
 y27, int .i64 x6]) fun x7 => asTup (some x7) fun x8 => PI.asInt .i64 x8[0]? fun x9 => bif decide (x9 < 0) then some (tup [bool true]) else need (O.R 0 11 [agg [int .i64 y1, int .i64 y2,
 sl y3 y4, sl y5 y6, sl y7 y8, sl y9 y10, int .i64 y11, bool y12, sl y13 y14, int .i64 y15]]) fun x10 => asTup (some x10) fun x11 => PI.asInt .i64 x11[0]? fun x12 => PI.asInt .i64
 x11[1]? fun x13 => asOsl x11[2]? fun x14 x15 => asOsl x11[3]? fun x16 x17 => asOsl x11[4]? fun x18 x19 => asOsl x11[5]? fun x20 x21 => PI.asInt .i64 x11[6]? fun x22 => PI.asBool x11[7]? fun x23 =>
 asOsl x11[8]? fun x24 x25 => PI.asInt .i64 x11[9]? fun x26 => need (O.R 0 13 [agg [int .i64 y16, int .i64 y17, sl y18 y19, sl y20 y21, sl y22 y23, sl y24 y25]]) fun x27 => asTup (some
 x27) fun x28 => PI.asInt .i64 x28[0]? fun x29 => PI.asInt .i64 x28[1]? fun x30 => asOsl x28[2]? fun x31 x32 => asOsl x28[3]? fun x33 x34 => asOsl x28[4]? fun x35 x36 => asOsl x28[5]? fun x37 x38 =>
 need (O.R 0 12 [sl y26 y27]) fun x39 => asTup (some x39) fun x40 => asOsl x40[0]? fun x41 x42 => need (O.R 0 24 [agg [int .i64 x12, int .i64 x13, sl x14 x15, sl x16 x17, sl x18 x19, sl
 x20 (bareL x21), int .i64 x22, bool x23, sl x24 (bareL x25), int .i64 x26], agg [int .i64 x29, int .i64 x30, sl x31 x32, sl x33 x34, sl x35 x36, sl x37 (bareL x38)], sl x41
 (bareL x42), int .i64 y28]) fun x43 => asTup (some x43) fun x44 => PI.asInt .i64 x44[0]? fun x45 => PI.asInt .i64 x44[1]? fun x46 => PI.asInt .i64 x44[2]? fun x47 => asSl x44[3]? fun x48 x49 => asSl
 x44[4]? fun x50 x51 => asSl x44[5]? fun x52 x53 => asSl x44[6]? fun x54 x55 => PI.asInt .i64 x44[7]? fun x56 => PI.asBool x44[8]? fun x57 => asSl x44[9]? fun x58 x59 => PI.asInt .i64 x44[10]? fun x60
 => need (O.R 0 11 [agg [int .i64 y1, int .i64 y2, sl y3 y4, sl y5 y6, sl y7 y8, sl y9 y10, int .i64 y11, bool y12, sl y13 y14, int .i64 y15]]) fun x61 => asTup (some x61) fun x62
 => PI.asInt .i64 x62[0]? fun x63 => PI.asInt .i64 x62[1]? fun x64 => asOsl x62[2]? fun x65 x66 => asOsl x62[3]? fun x67 x68 => asOsl x62[4]? fun x69 x70 => asOsl x62[5]? fun x71 x72 => PI.asInt .i64
 x62[6]? fun x73 => PI.asBool x62[7]? fun x74 => asOsl x62[8]? fun x75 x76 => PI.asInt .i64 x62[9]? fun x77 => need (O.R 0 13 [agg [int .i64 y16, int .i64 y17, sl y18 y19, sl y20 y21, sl
 y22 y23, sl y24 y25]]) fun x78 => asTup (some x78) fun x79 => PI.asInt .i64 x79[0]? fun x80 => PI.asInt .i64 x79[1]? fun x81 => asOsl x79[2]? fun x82 x83 => asOsl x79[3]? fun x84 x85 => asOsl
 x79[4]? fun x86 x87 => asOsl x79[5]? fun x88 x89 => need (O.R 0 12 [sl y26 y27]) fun x90 => asTup (some x90) fun x91 => asOsl x91[0]? fun x92 x93 => need (O.R 0 25 [agg [int .i64 x63, int .i64
 x64, sl x65 x66, sl x67 x68, sl x69 x70, sl x71 (bareL x72), int .i64 x73, bool x74, sl x75 (bareL x76), int .i64 x77], agg [int .i64 x80, int .i64 x81, sl x82 x83, sl x84
 x85, sl x86 x87, sl x88 (bareL x89)], sl x92 (bareL x93), int .i64 y28]) fun x94 => asTup (some x94) fun x95 => PI.asInt .i64 x95[0]? fun x96 => PI.asInt .i64 x95[1]? fun x97 => PI.asInt .i64
 x95[2]? fun x98 => asOsl x95[3]? fun x99 x100 => asOsl x95[4]? fun x101 x102 => asOsl x95[5]? fun x103 x104 => asOsl x95[6]? fun x105 x106 => PI.asInt .i64 x95[7]? fun x107 => PI.asBool x95[8]? fun
 x108 => asOsl x95[9]? fun x109 x110 => PI.asInt .i64 x95[10]? fun x111 => need (O.R 0 15 [agg [int .i64 x96, int .i64 x97, int .i64 x98, sl x99 x100, sl x101 x102, sl x103 x104, sl
 x105 (bareL x106), int .i64 x107, bool x108, sl x109 (bareL x110), int .i64 x111], agg [int .i64 x45, int .i64 x46, int .i64 x47, sl x48 x49, sl x50 x51, sl x52 x53, sl x54
 x55, int .i64 x56, bool x57, sl x58 x59, int .i64 x60]]) fun x112 => asTup (some x112) fun x113 => PI.asBool x113[0]? fun x114 => bif !x114 then some (tup [bool false]) else need (O.R 0 11
 [agg [int .i64 y1, int .i64 y2, sl y3 y4, sl y5 y6, sl y7 y8, sl y9 y10, int .i64 y11, bool y12, sl y13 y14, int .i64 y15]]) fun x115 => asTup (some x115) fun x116 => PI.asInt
 .i64 x116[0]? fun x117 => PI.asInt .i64 x116[1]? fun x118 => asOsl x116[2]? fun x119 x120 => asOsl x116[3]? fun x121 x122 => asOsl x116[4]? fun x123 x124 => asOsl x116[5]? fun x125 x126 => PI.asInt
 .i64 x116[6]? fun x127 => PI.asBool x116[7]? fun x128 => asOsl x116[8]? fun x129 x130 => PI.asInt .i64 x116[9]? fun x131 => need (O.R 0 16 [agg [int .i64 x63, int .i64 x64, sl x65 x66, sl
 x67 x68, sl x69 x70, sl x71 (bareL x72), int .i64 x73, bool x74, sl x75 (bareL x76), int .i64 x77], agg [int .i64 x117, int .i64 x118, sl x119 x120, sl x121 x122, sl x123 x124,
 sl x125 (bareL x126), int .i64 x127, bool x128, sl x129 (bareL x130), int .i64 x131]]) fun x132 => asTup (some x132) fun x133 => PI.asBool x133[0]? fun x134 => bif !x134 then some (tup
 [bool false]) else need (O.R 0 13 [agg [int .i64 y16, int .i64 y17, sl y18 y19, sl y20 y21, sl y22 y23, sl y24 y25]]) fun x135 => asTup (some x135) fun x136 => PI.asInt .i64 x136[0]?
 fun x137 => PI.asInt .i64 x136[1]? fun x138 => asOsl x136[2]? fun x139 x140 => asOsl x136[3]? fun x141 x142 => asOsl x136[4]? fun x143 x144 => asOsl x136[5]? fun x145 x146 => need (O.R 0 18 [agg
 [int .i64 x80, int .i64 x81, sl x82 x83, sl x84 x85, sl x86 x87, sl x88 (bareL x89)], agg [int .i64 x137, int .i64 x138, sl x139 x140, sl x141 x142, sl x143 x144, sl x145
 (bareL x146)]]) fun x147 => asTup (some x147) fun x148 => PI.asBool x148[0]? fun x149 => bif !x149 then some (tup [bool false]) else need (O.R 0 12 [sl y26 y27]) fun x150 => asTup (some x150)
 fun x151 => asOsl x151[0]? fun x152 x153 => need (O.R 0 17 [sl x92 (bareL x93), sl x152 (bareL x153)]) fun x154 => asTup (some x154) fun x155 => PI.asBool x155[0]? fun x156 => bif !x156 then some
 (tup [bool false]) else need (O.W 0 19 [0, 1, 2, 3, 4] [agg [int .i64 x63, int .i64 x64, ref 0, ref 1, ref 2, ref 3, int .i64 x73, bool x74, ref 4, int .i64 x77], int .i64
 1] [Ob.row 5 x65 x66 false, Ob.row 5 x67 x68 false, Ob.row 5 x69 x70 false, Ob.nrow [] 78 x71 x72, Ob.nrow [] 22 x75 x76]) fun x157 => asTup (some x157) fun x158 => PI.asInt .i64 x158[0]? fun x159 =>
 asOsl x158[1]? fun x160 x161 => asOsl x158[2]? fun x162 x163 => asOsl x158[3]? fun x164 x165 => asOsl x158[4]? fun x166 x167 => asOsl x158[5]? fun x168 x169 => need (O.W 0 21 [0, 1, 2, 3] [agg
 [int .i64 x80, int .i64 x81, ref 0, ref 1, ref 2, ref 3], int .i64 x159] [Ob.row 5 x82 x83 false, Ob.row 5 x84 x85 false, Ob.row 5 x86 x87 false, Ob.nrow [] 110 x88 x89]) fun x170 =>
 asTup (some x170) fun x171 => PI.asInt .i64 x171[0]? fun x172 => asOsl x171[1]? fun x173 x174 => asOsl x171[2]? fun x175 x176 => asOsl x171[3]? fun x177 x178 => asOsl x171[4]? fun x179 x180 => need
 (O.W 0 20 [0] [ref 0, int .i64 x172] [Ob.nrow [] 78 x92 x93]) fun x181 => asTup (some x181) fun x182 => PI.asInt .i64 x182[0]? fun x183 => asOsl x182[1]? fun x184 x185 => bif decide (x183 < 0)
 then some (tup [bool false]) else need (O.R 0 15 [agg [int .i64 x96, int .i64 x97, int .i64 x98, sl x99 x100, sl x101 x102, sl x103 x104, sl x105 (bareL x106), int .i64 x107,
 bool x108, sl x109 (bareL x110), int .i64 x111], agg [int .i64 x45, int .i64 x46, int .i64 x47, sl x48 x49, sl x50 x51, sl x52 x53, sl x54 x55, int .i64 x56, bool x57, sl
 x58 x59, int .i64 x60]]) fun x186 => asTup (some x186) fun x187 => PI.asBool x187[0]? fun x188 => bif !x188 then some (tup [bool false]) else need (O.W 0 22 [0, 1, 2, 3, 4] [agg [int .i64
 x96, int .i64 x97, int .i64 x98, ref 0, ref 1, ref 2, ref 3, int .i64 x107, bool x108, ref 4, int .i64 x111], int .i64 1] [Ob.row 5 x99 x100 false, Ob.row 5 x101 x102 false,
 Ob.row 5 x103 x104 false, Ob.nrow [] 78 x105 x106, Ob.nrow [] 22 x109 x110]) fun x189 => asTup (some x189) fun x190 => PI.asInt .i64 x190[0]? fun x191 => asOsl x190[1]? fun x192 x193 => asOsl x190[2]?
 fun x194 x195 => asOsl x190[3]? fun x196 x197 => asOsl x190[4]? fun x198 x199 => asOsl x190[5]? fun x200 x201 => need (O.R 0 23 [agg [int .i64 x96, int .i64 x97, int .i64 x98, sl x192 x193,
 sl x194 x195, sl x196 x197, sl x198 (bareL x199), int .i64 x107, bool x108, sl x200 (bareL x201), int .i64 x111], int .i64 1]) fun x202 => asTup (some x202) fun x203 => PI.asInt .i64
 x203[0]? fun x204 => bif decide (x204 < 0) then some (tup [bool false]) else bif x204 != x191 then some (tup [bool false]) else need (O.R 0 11 [agg [int .i64 y1, int .i64 y2, sl y3 y4,
 sl y5 y6, sl y7 y8, sl y9 y10, int .i64 y11, bool y12, sl y13 y14, int .i64 y15]]) fun x205 => asTup (some x205) fun x206 => PI.asInt .i64 x206[0]? fun x207 => PI.asInt .i64 x206[1]? fun
 x208 => asOsl x206[2]? fun x209 x210 => asOsl x206[3]? fun x211 x212 => asOsl x206[4]? fun x213 x214 => asOsl x206[5]? fun x215 x216 => PI.asInt .i64 x206[6]? fun x217 => PI.asBool x206[7]? fun x218
 => asOsl x206[8]? fun x219 x220 => PI.asInt .i64 x206[9]? fun x221 => need (O.R 0 13 [agg [int .i64 y16, int .i64 y17, sl y18 y19, sl y20 y21, sl y22 y23, sl y24 y25]]) fun x222 => asTup
 (some x222) fun x223 => PI.asInt .i64 x223[0]? fun x224 => PI.asInt .i64 x223[1]? fun x225 => asOsl x223[2]? fun x226 x227 => asOsl x223[3]? fun x228 x229 => asOsl x223[4]? fun x230 x231 => asOsl
 x223[5]? fun x232 x233 => need (O.R 0 12 [sl y26 y27]) fun x234 => asTup (some x234) fun x235 => asOsl x235[0]? fun x236 x237 => need (O.R 0 25 [agg [int .i64 x207, int .i64 x208, sl x209
 x210, sl x211 x212, sl x213 x214, sl x215 (bareL x216), int .i64 x217, bool x218, sl x219 (bareL x220), int .i64 x221], agg [int .i64 x224, int .i64 x225, sl x226 x227, sl x228
 x229, sl x230 x231, sl x232 (bareL x233)], sl x236 (bareL x237), int .i64 y28]) fun x238 => asTup (some x238) fun x239 => PI.asInt .i64 x239[0]? fun x240 => PI.asInt .i64 x239[1]? fun x241 =>
 PI.asInt .i64 x239[2]? fun x242 => asOsl x239[3]? fun x243 x244 => asOsl x239[4]? fun x245 x246 => asOsl x239[5]? fun x247 x248 => asOsl x239[6]? fun x249 x250 => PI.asInt .i64 x239[7]? fun x251 =>
 PI.asBool x239[8]? fun x252 => asOsl x239[9]? fun x253 x254 => PI.asInt .i64 x239[10]? fun x255 => need (O.R 0 15 [agg [int .i64 x240, int .i64 x241, int .i64 x242, sl x243 x244, sl x245
 x246, sl x247 x248, sl x249 (bareL x250), int .i64 x251, bool x252, sl x253 (bareL x254), int .i64 x255], agg [int .i64 x45, int .i64 x46, int .i64 x47, sl x48 x49, sl x50 x51,
 sl x52 x53, sl x54 x55, int .i64 x56, bool x57, sl x58 x59, int .i64 x60]]) fun x256 => asTup (some x256) fun x257 => PI.asBool x257[0]? fun x258 => bif !x258 then some (tup [bool
 false]) else need (O.R 0 23 [agg [int .i64 x96, int .i64 x97, int .i64 x98, sl x192 x193, sl x194 x195, sl x196 x197, sl x198 (bareL x199), int .i64 x107, bool x108, sl x200
 (bareL x201), int .i64 x111], int .i64 1]) fun x259 => asTup (some x259) fun x260 => PI.asInt .i64 x260[0]? fun x261 => bif decide (x261 < 0) then some (tup [bool false]) else bif x261 != x191
 then some (tup [bool false]) else some (tup [bool true])
theorem E4 (y1 y2 y3 y4 y5 y6 y7 y8 y9 y10 y11 y12 y13 y14 y15 y16 y17 y18 y19 y20 y21 y22 y23 y24 y25 y26 y27 y28) {r : V} (h : T4 (orcE C) y1 y2 y3 y4 y5 y6 y7 y8 y9 y10 y11 y12 y13 y14 y15 y16 y17 y18 y19 y20 y21 y22 y23 y24 y25 y26 y27 y28 = some r) : runE C 4 [agg [int .i64 y1, int .i64 y2, sl y3 y4, sl y5 y6, sl y7
 y8, sl y9 y10, int .i64 y11, bool y12, sl y13 y14, int .i64 y15], agg [int .i64 y16, int .i64 y17, sl y18 y19, sl y20 y21, sl y22 y23, sl y24 y25], sl y26 y27, int .i64
 y28] = some r := ofR (j := 1) (F := fun s => T4 (orc C s.k) y1 y2 y3 y4 y5 y6 y7 y8 y9 y10 y11 y12 y13 y14 y15 y16 y17 y18 y19 y20 y21 y22 y23 y24 y25 y26 y27 y28) (fun _ => by kernel_rfl)
 (by
  unfold T4
  repeat' first | (with_reducible first | exact cC | refine cN cR fun _ => ?_ | refine cN cQ fun _ => ?_ | refine cT fun _ => ?_ | refine cI fun _ => ?_ | refine cF ?_ ?_ | refine cB fun _ => ?_ | refine cL fun _ _ => ?_ | refine cO fun _ _ => ?_ | refine cN cC fun _ => ?_ | exact cR | exact cQ)) h
def T7 (O : Orc) (y1 y2 : Int) (y3 : Nat) (y4 : List V) (y5 : Nat) (y6 : List V) (y7 : Nat) (y8 : List V) (y9 : Nat) (y10 : List V) (y11 : Int) (y12 : Bool) (y13
 : Nat) (y14 : List V) (y15 : Int) (y16 : Int) : Option V := need (O.R 0 30 [agg [int .i64 y1, int .i64 y2, sl y3 y4, sl y5 y6, sl y7 y8], int .i64 y16]) fun x1 => asTup (some x1) fun x2
 => PI.asInt .i64 x2[0]? fun x3 => bif decide (x3 < 0) then some (tup [int .i64 (-1)]) else need (O.R 0 8 [sl y9 y10, int .i64 x3]) fun x4 => asTup (some x4) fun x5 => PI.asInt .i64 x5[0]? fun
 x6 => bif decide (x6 < 0) then some (tup [int .i64 (-1)]) else need (O.R 0 31 [sl y13 y14, int .i64 x6]) fun x7 => asTup (some x7) fun x8 => PI.asInt .i64 x8[0]? fun x9 => bif decide (x9 < 0)
 then some (tup [int .i64 (-1)]) else some (tup [int .i64 x9])
theorem E7 (y1 y2 y3 y4 y5 y6 y7 y8 y9 y10 y11 y12 y13 y14 y15 y16) {r : V} (h : T7 (orcE C) y1 y2 y3 y4 y5 y6 y7 y8 y9 y10 y11 y12 y13 y14 y15 y16 = some r) : runE C 7 [agg [int .i64 y1, int .i64 y2, sl y3 y4, sl y5 y6, sl y7 y8, sl
 y9 y10, int .i64 y11, bool y12, sl y13 y14, int .i64 y15], int .i64 y16] = some r := ofR (j := 1) (F := fun s => T7 (orc C s.k) y1 y2 y3 y4 y5 y6 y7 y8 y9 y10 y11 y12 y13 y14 y15
 y16) (fun _ => by kernel_rfl) (by
  unfold T7
  repeat' first | (with_reducible first | exact cC | refine cN cR fun _ => ?_ | refine cT fun _ => ?_ | refine cI fun _ => ?_ | refine cF ?_ ?_ | refine cN cC fun _ => ?_ | exact cR)) h
def T9 (O : Orc) (y1 y2 : Int) (y3 : Nat) (y4 : List V) (y5 : Nat) (y6 : List V) (y7 : Nat) (y8 : List V) (y9 : Nat) (y10 : List V) (y11 : Int) : Option V :=
 need (O.R 0 30 [agg [int .i64 y1, int .i64 y2, sl y3 y4, sl y5 y6, sl y7 y8], int .i64 y11]) fun x1 => asTup (some x1) fun x2 => PI.asInt .i64 x2[0]? fun x3 => bif decide (x3 < 0) then
 some (tup [int .i64 (-1)]) else need (O.R 0 33 [sl y9 y10, int .i64 x3]) fun x4 => asTup (some x4) fun x5 => PI.asInt .i64 x5[0]? fun x6 => bif decide (x6 < 0) then some (tup [int .i64
 (-1)]) else some (tup [int .i64 x6])
theorem E9 (y1 y2 y3 y4 y5 y6 y7 y8 y9 y10 y11) {r : V} (h : T9 (orcE C) y1 y2 y3 y4 y5 y6 y7
 y8 y9 y10 y11 = some r) : runE C 9 [agg [int .i64 y1, int .i64 y2, sl y3 y4, sl y5 y6, sl y7 y8, sl y9 y10], int .i64 y11] = some r := ofR (j := 1) (F := fun s => T9 (orc C s.k) y1 y2 y3 y4 y5 y6 y7 y8 y9 y10 y11) (fun _ => by kernel_rfl) (by
  unfold T9
  repeat' first | (with_reducible first | exact cC | refine cN cR fun _ => ?_ | refine cT fun _ => ?_ | refine cI fun _ => ?_ | refine cF ?_ ?_ | refine cN cC fun _ => ?_ | exact cR)) h
def T8 (O : Orc) (k : Nat) (y1 : Nat) (y2 : List V) (y3 : Int) : Option V := bif decide (i64.wrap (y3 - (↑y1 : Int)) < 0) then some (tup [int .i64 (-1)]) else O.L 0 8
 0 [true, true, true, false, true] [] k [(0, sl y1 y2), (1, int .i64 (i64.wrap (y3 - (↑y1 : Int)))), (5, int .i64 0)] []
theorem E8 (y1 y2 y3) {r : V} (h : T8 (orcE C) 0 y1 y2 y3 = some r) : runE C 8 [sl y1 y2, int .i64 y3] = some r := ofR (j := 1) (F := fun s => T8 (orc C s.k) s.k y1 y2 y3) (fun _ => by kernel_rfl) (by
  unfold T8
  repeat' first | (with_reducible first | exact cC | refine cF ?_ ?_) | exact cD0 gK) h
def T11 (O : Orc) (y1 y2 : Int) (y3 : Nat) (y4 : List V) (y5 : Nat) (y6 : List V) (y7 : Nat) (y8 : List V) (y9 : Nat) (y10 : List V) (y11 : Int) (y12 : Bool) (y13 : Nat) (y14 : List V) (y15 : Int) : Option V := need (O.R 0 42 [agg [int .i64 y1, int .i64 y2, sl y3 y4, sl y5 y6, sl y7 y8]]) fun x1 => asTup (some x1) fun x2 => PI.asInt .i64 x2[0]?
 fun x3 => PI.asInt .i64 x2[1]? fun x4 => asOsl x2[2]? fun x5 x6 => asOsl x2[3]? fun x7 x8 => asOsl x2[4]? fun x9 x10 => need (O.R 0 12 [sl y9 y10]) fun x11 => asTup (some x11) fun x12 => asOsl
 x12[0]? fun x13 x14 => need (O.R 0 43 [sl y13 y14]) fun x15 => asTup (some x15) fun x16 => asOsl x16[0]? fun x17 x18 => must (false || x6.all flatV) (must (false || x8.all flatV) (must (false ||
 x10.all flatV) (some (tup [int .i64 x3, int .i64 x4, osl x5 x6, osl x7 x8, osl x9 x10, osl x13 x14, int .i64 y11, bool y12, osl x17 x18, int .i64 y15]))))
theorem E11 (y1 y2 y3 y4 y5 y6 y7 y8 y9 y10 y11 y12 y13 y14 y15) {r
 : V} (h : T11 (orcE C) y1 y2 y3 y4 y5 y6 y7 y8 y9 y10 y11 y12 y13 y14 y15 = some r) : runE C 11 [agg [int .i64 y1, int .i64 y2, sl y3 y4, sl y5 y6, sl y7 y8, sl y9 y10, int
 .i64 y11, bool y12, sl y13 y14, int .i64 y15]] = some r := ofR (j := 1) (F := fun s => T11 (orc C s.k) y1 y2 y3 y4 y5 y6 y7 y8 y9 y10 y11 y12 y13 y14 y15) (fun _ => by kernel_rfl) (by
  unfold T11
  repeat' first | (with_reducible first | exact cC | refine cN cR fun _ => ?_ | refine cT fun _ => ?_ | refine cI fun _ => ?_ | refine cM ?_ | refine cO fun _ _ => ?_ | refine cN cC fun _ => ?_ | exact cR)) h
def T13 (O : Orc) (y1 y2 : Int) (y3 : Nat) (y4 : List V) (y5 : Nat) (y6 : List V) (y7 : Nat) (y8 : List V) (y9 : Nat) (y10 : List V) : Option V := need (O.R 0 42
 [agg [int .i64 y1, int .i64 y2, sl y3 y4, sl y5 y6, sl y7 y8]]) fun x1 => asTup (some x1) fun x2 => PI.asInt .i64 x2[0]? fun x3 => PI.asInt .i64 x2[1]? fun x4 => asOsl x2[2]? fun x5 x6 =>
 asOsl x2[3]? fun x7 x8 => asOsl x2[4]? fun x9 x10 => need (O.R 0 45 [sl y9 y10]) fun x11 => asTup (some x11) fun x12 => asOsl x12[0]? fun x13 x14 => must (false || x6.all flatV) (must (false ||
 x8.all flatV) (must (false || x10.all flatV) (some (tup [int .i64 x3, int .i64 x4, osl x5 x6, osl x7 x8, osl x9 x10, osl x13 x14]))))
theorem E13 (y1 y2 y3 y4 y5 y6 y7 y8 y9 y10) {r : V} (h : T13 (orcE C) y1 y2 y3 y4 y5 y6 y7 y8 y9 y10 =
 some r) : runE C 13 [agg [int .i64 y1, int .i64 y2, sl y3 y4, sl y5 y6, sl y7 y8, sl y9 y10]] = some r := ofR (j := 1) (F := fun s => T13 (orc C s.k) y1 y2 y3 y4 y5 y6 y7 y8
 y9 y10) (fun _ => by kernel_rfl) (by
  unfold T13
  repeat' first | (with_reducible first | exact cC | refine cN cR fun _ => ?_ | refine cT fun _ => ?_ | refine cI fun _ => ?_ | refine cM ?_ | refine cO fun _ _ => ?_ | refine cN cC fun _ => ?_ | exact cR)) h
def T12 (O : Orc) (k : Nat) (y1 : Nat) (y2 : List V) : Option V := must (decide ((↑y1 : Int) = (↑y1 : Int)) && decide (0 ≤ (↑y1 : Int)) && decide ((↑y1 : Int) ≤ 140737488355328)
 && decide ((↑y1 : Int) * 32 ≤ 140737488355328)) (O.L 0 12 0 [true, true, false, true] [] k [(0, sl y1 y2), (3, ref 0), (4, int .i64 0)] [Ob.nrow [] 78 (↑y1 : Int).toNat (reps (↑y1 : Int).toNat
 [nilsl, int .i64 0])])
theorem E12 (y1 y2) {r : V} (h : T12 (orcE C) 0 y1 y2 = some r) : runE C 12 [sl y1 y2] = some r := ofR (j := 1) (F := fun s => T12 (orc C s.k) s.k y1 y2) (fun _ => by
 kernel_rfl) (by
  unfold T12
  repeat' first | (with_reducible first | exact cC | refine cM ?_) | exact cD0 gK) h
def T24 (O : Orc) (y1 y2 : Int) (y3 : Nat) (y4 : List V) (y5 : Nat) (y6 : List V) (y7 : Nat) (y8 : List V) (y9 : Nat) (y10 : List V) (y11 : Int) (y12 : Bool) (y13 : Nat) (y14 : List V) (y15 y16 y17 : Int) (y18 : Nat) (y19 : List V) (y20 : Nat) (y21 : List V) (y22 : Nat) (y23 : List V) (y24 : Nat) (y25 : List V) (y26 : Nat) (y27 : List V) (y28 : Int) : Option V := need (O.R 0 62 [agg [int .i64 y1, int .i64 y2, sl y3 y4, sl y5 y6, sl y7 y8, sl y9 y10, int .i64 y11, bool y12, sl y13 y14, int .i64 y15], int .i64
 y28]) fun x1 => asTup (some x1) fun x2 => PI.asInt .i64 x2[0]? fun x3 => bif x3 != 0 then some (tup [int .i64 x3, int .i64 0, int .i64 0, sl 0 [], sl 0 [], sl 0 [], sl 0 [], int .i64
 0, bool false, sl 0 [], int .i64 0]) else need (O.R 0 63 [agg [int .i64 y1, int .i64 y2, sl y3 y4, sl y5 y6, sl y7 y8, sl y9 y10, int .i64 y11, bool y12, sl y13 y14, int
 .i64 y15], agg [int .i64 y16, int .i64 y17, sl y18 y19, sl y20 y21, sl y22 y23, sl y24 y25], sl y26 y27, int .i64 y28]) fun x4 => asTup (some x4) fun x5 => PI.asInt .i64 x5[0]? fun
 x6 => PI.asInt .i64 x5[1]? fun x7 => PI.asInt .i64 x5[2]? fun x8 => asSl x5[3]? fun x9 x10 => asSl x5[4]? fun x11 x12 => asSl x5[5]? fun x13 x14 => asSl x5[6]? fun x15 x16 => PI.asInt .i64 x5[7]? fun
 x17 => PI.asBool x5[8]? fun x18 => asSl x5[9]? fun x19 x20 => PI.asInt .i64 x5[10]? fun x21 => some (tup [int .i64 x6, int .i64 x7, int .i64 x8, sl x9 x10, sl x11 x12, sl x13 x14, sl
 x15 x16, int .i64 x17, bool x18, sl x19 x20, int .i64 x21])
theorem E24 (y1 y2 y3 y4 y5 y6 y7 y8 y9 y10 y11 y12 y13 y14 y15 y16 y17 y18 y19 y20 y21 y22 y23 y24 y25 y26 y27 y28) {r : V} (h : T24 (orcE C) y1 y2 y3 y4 y5 y6 y7 y8 y9 y10 y11 y12 y13 y14 y15 y16 y17 y18 y19 y20 y21 y22 y23 y24 y25 y26 y27 y28 = some r) : runE C 24 [agg [int .i64 y1, int .i64 y2, sl y3 y4, sl y5 y6, sl y7
 y8, sl y9 y10, int .i64 y11, bool y12, sl y13 y14, int .i64 y15], agg [int .i64 y16, int .i64 y17, sl y18 y19, sl y20 y21, sl y22 y23, sl y24 y25], sl y26 y27, int .i64
 y28] = some r := ofR (j := 1) (F := fun s => T24 (orc C s.k) y1 y2 y3 y4 y5 y6 y7 y8 y9 y10 y11 y12 y13 y14 y15 y16 y17 y18 y19 y20 y21 y22 y23 y24 y25 y26 y27 y28) (fun _ => by
 kernel_rfl) (by
  unfold T24
  repeat' first | (with_reducible first | exact cC | refine cN cR fun _ => ?_ | refine cT fun _ => ?_ | refine cI fun _ => ?_ | refine cF ?_ ?_ | refine cB fun _ => ?_ | refine cL fun _ _ => ?_ | refine cN cC fun _ => ?_ | exact cR)) h
def T25 (O : Orc) (y1 y2 : Int) (y3 : Nat) (y4 : List V) (y5 : Nat) (y6 : List V) (y7 : Nat) (y8 : List V) (y9 : Nat) (y10 : List V) (y11 : Int) (y12 : Bool) (y13 : Nat) (y14 : List V) (y15 y16 y17 : Int) (y18 : Nat) (y19 : List V) (y20 : Nat) (y21 : List V) (y22 : Nat) (y23 : List V) (y24 : Nat) (y25 : List V) (y26 : Nat) (y27 : List V) (y28 : Int) : Option V := need (O.R 0 64 [agg [int .i64 y1, int .i64 y2, sl y3 y4, sl y5 y6, sl y7 y8, sl y9 y10, int .i64 y11, bool y12, sl y13 y14, int .i64 y15], int .i64
 y28]) fun x1 => asTup (some x1) fun x2 => PI.asInt .i64 x2[0]? fun x3 => bif x3 != 0 then some (tup [int .i64 x3, int .i64 0, int .i64 0, osl 0 [], osl 0 [], osl 0 [], osl 0 [], int
 .i64 0, bool false, osl 0 [], int .i64 0]) else need (O.R 0 48 [sl y9 y10, agg [int .i64 y16, int .i64 y17, sl y18 y19, sl y20 y21, sl y22 y23, sl y24 y25]]) fun x4 => asTup
 (some x4) fun x5 => PI.asInt .i64 x5[0]? fun x6 => bif x6 != 0 then some (tup [int .i64 x6, int .i64 0, int .i64 0, osl 0 [], osl 0 [], osl 0 [], osl 0 [], int .i64 0, bool false,
 osl 0 [], int .i64 0]) else need (O.R 0 65 [agg [int .i64 y1, int .i64 y2, sl y3 y4, sl y5 y6, sl y7 y8, sl y9 y10, int .i64 y11, bool y12, sl y13 y14, int .i64 y15], agg
 [int .i64 y16, int .i64 y17, sl y18 y19, sl y20 y21, sl y22 y23], bool (y16 == i64.wrap (y1 + 1)), int .i64 y28]) fun x7 => asTup (some x7) fun x8 => PI.asInt .i64 x8[0]? fun x9
 => bif x9 != 0 then some (tup [int .i64 x9, int .i64 0, int .i64 0, osl 0 [], osl 0 [], osl 0 [], osl 0 [], int .i64 0, bool false, osl 0 [], int .i64 0]) else need (O.R 0 66
 [sl y9 y10, agg [int .i64 y16, int .i64 y17, sl y18 y19, sl y20 y21, sl y22 y23, sl y24 y25]]) fun x10 => asTup (some x10) fun x11 => PI.asBool x11[0]? fun x12 => bif !x12 then some
 (tup [int .i64 6, int .i64 0, int .i64 0, osl 0 [], osl 0 [], osl 0 [], osl 0 [], int .i64 0, bool false, osl 0 [], int .i64 0]) else need (O.R 0 67 [agg [int .i64 y1,
 int .i64 y2, sl y3 y4, sl y5 y6, sl y7 y8, sl y9 y10, int .i64 y11, bool y12, sl y13 y14, int .i64 y15], agg [int .i64 y16, int .i64 y17, sl y18 y19, sl y20 y21, sl y22
 y23], sl y26 y27]) fun x13 => asTup (some x13) fun x14 => PI.asInt .i64 x14[0]? fun x15 => PI.asInt .i64 x14[1]? fun x16 => PI.asInt .i64 x14[2]? fun x17 => asOsl x14[3]? fun x18 x19 => asOsl
 x14[4]? fun x20 x21 => asOsl x14[5]? fun x22 x23 => asOsl x14[6]? fun x24 x25 => PI.asInt .i64 x14[7]? fun x26 => PI.asBool x14[8]? fun x27 => asOsl x14[9]? fun x28 x29 => PI.asInt .i64 x14[10]? fun
 x30 => must (false || x19.all flatV) (must (false || x21.all flatV) (must (false || x23.all flatV) (some (tup [int .i64 x15, int .i64 x16, int .i64 x17, osl x18 x19, osl x20 x21, osl x22
 x23, osl x24 x25, int .i64 x26, bool x27, osl x28 x29, int .i64 x30]))))
theorem E25 (y1 y2 y3 y4 y5 y6 y7 y8 y9 y10 y11 y12 y13 y14 y15 y16 y17 y18 y19 y20 y21 y22 y23 y24 y25 y26 y27 y28) {r : V} (h : T25 (orcE C) y1 y2 y3 y4 y5 y6 y7 y8 y9 y10 y11 y12 y13 y14 y15 y16 y17 y18 y19 y20 y21 y22 y23 y24 y25 y26 y27 y28 = some r) : runE C 25 [agg [int .i64 y1, int .i64 y2, sl y3 y4, sl y5 y6, sl y7
 y8, sl y9 y10, int .i64 y11, bool y12, sl y13 y14, int .i64 y15], agg [int .i64 y16, int .i64 y17, sl y18 y19, sl y20 y21, sl y22 y23, sl y24 y25], sl y26 y27, int .i64
 y28] = some r := ofR (j := 1) (F := fun s => T25 (orc C s.k) y1 y2 y3 y4 y5 y6 y7 y8 y9 y10 y11 y12 y13 y14 y15 y16 y17 y18 y19 y20 y21 y22 y23 y24 y25 y26 y27 y28) (fun _ => by
 kernel_rfl) (by
  unfold T25
  repeat' first | (with_reducible first | exact cC | refine cN cR fun _ => ?_ | refine cT fun _ => ?_ | refine cI fun _ => ?_ | refine cM ?_ | refine cF ?_ ?_ | refine cB fun _ => ?_ | refine cO fun _ _ => ?_ | refine cN cC fun _ => ?_ | exact cR)) h
def T15 (O : Orc) (y1 y2 y3 : Int) (y4 : Nat) (y5 : List V) (y6 : Nat) (y7 : List V) (y8 : Nat) (y9 : List V) (y10 : Nat) (y11 : List V) (y12 : Int) (y13
 : Bool) (y14 : Nat) (y15 : List V) (y16 : Int) (y17 : Int) (y18 : Int) (y19 : Int) (y20 : Nat) (y21 : List V) (y22 : Nat) (y23 : List V) (y24 : Nat) (y25 : List V) (y26 : Nat) (y27 : List V) (y28 :
 Int) (y29 : Bool) (y30 : Nat) (y31 : List V) (y32 : Int) : Option V := bif y1 != y17 then some (tup [bool false]) else need (O.R 0 16 [agg [int .i64 y2, int .i64 y3, sl y4 y5, sl y6 y7,
 sl y8 y9, sl y10 y11, int .i64 y12, bool y13, sl y14 y15, int .i64 y16], agg [int .i64 y18, int .i64 y19, sl y20 y21, sl y22 y23, sl y24 y25, sl y26 y27, int .i64 y28,
 bool y29, sl y30 y31, int .i64 y32]]) fun x1 => asTup (some x1) fun x2 => PI.asBool x2[0]? fun x3 => bif !x3 then some (tup [bool false]) else some (tup [bool true])
theorem E15 (y1 y2 y3 y4 y5 y6 y7 y8 y9 y10 y11 y12 y13 y14 y15 y16 y17 y18 y19 y20 y21 y22 y23 y24 y25 y26 y27 y28 y29 y30) (y31 :
 List V) (y32 : Int) {r : V} (h : T15 (orcE C) y1 y2 y3 y4 y5 y6 y7 y8 y9 y10 y11 y12 y13 y14 y15 y16 y17 y18 y19 y20 y21 y22 y23 y24 y25 y26 y27 y28 y29 y30 y31 y32 = some r) : runE C 15
 [agg [int .i64 y1, int .i64 y2, int .i64 y3, sl y4 y5, sl y6 y7, sl y8 y9, sl y10 y11, int .i64 y12, bool y13, sl y14 y15, int .i64 y16], agg [int .i64 y17, int .i64 y18,
 int .i64 y19, sl y20 y21, sl y22 y23, sl y24 y25, sl y26 y27, int .i64 y28, bool y29, sl y30 y31, int .i64 y32]] = some r := ofR (j := 1) (F := fun s => T15 (orc C s.k)
 y1 y2 y3 y4 y5 y6 y7 y8 y9 y10 y11 y12 y13 y14 y15 y16 y17 y18 y19 y20 y21 y22 y23 y24 y25 y26 y27 y28 y29 y30 y31 y32) (fun _ => by kernel_rfl) (by
  unfold T15
  repeat' first | (with_reducible first | exact cC | refine cN cR fun _ => ?_ | refine cT fun _ => ?_ | refine cF ?_ ?_ | refine cB fun _ => ?_ | refine cN cC fun _ => ?_ | exact cR)) h
def T16 (O : Orc) (y1 y2 : Int) (y3 : Nat) (y4 : List V) (y5 : Nat) (y6 : List V) (y7 : Nat) (y8 : List V) (y9 : Nat) (y10 : List V) (y11 : Int) (y12 : Bool) (y13 : Nat) (y14 : List V) (y15 y16 y17 : Int) (y18 : Nat) (y19 : List V) (y20 : Nat) (y21 : List V) (y22 : Nat) (y23 : List V) (y24 : Nat) (y25 : List V) (y26 : Int) (y27 : Bool) (y28
 : Nat) (y29 : List V) (y30 : Int) : Option V := need (O.R 0 53 [agg [int .i64 y1, int .i64 y2, sl y3 y4, sl y5 y6, sl y7 y8], agg [int .i64 y16, int .i64 y17, sl y18 y19, sl y20
 y21, sl y22 y23]]) fun x1 => asTup (some x1) fun x2 => PI.asBool x2[0]? fun x3 => bif !x3 then some (tup [bool false]) else need (O.R 0 17 [sl y9 y10, sl y24 y25]) fun x4 => asTup (some x4)
 fun x5 => PI.asBool x5[0]? fun x6 => bif !x6 then some (tup [bool false]) else bif y11 != y26 then some (tup [bool false]) else bif !y12 == y27 then some (tup [bool false]) else need (O.R
 0 54 [sl y13 y14, sl y28 y29]) fun x7 => asTup (some x7) fun x8 => PI.asBool x8[0]? fun x9 => bif !x9 then some (tup [bool false]) else bif y15 != y30 then some (tup [bool false]) else
 some (tup [bool true])
theorem E16 (y1 y2 y3 y4 y5 y6 y7 y8 y9 y10 y11 y12 y13 y14 y15 y16 y17 y18 y19 y20 y21 y22 y23 y24 y25 y26 y27 y28 y29 y30) {r :
 V} (h : T16 (orcE C) y1 y2 y3 y4 y5 y6 y7 y8 y9 y10 y11 y12 y13 y14 y15 y16 y17 y18 y19 y20 y21 y22 y23 y24 y25 y26 y27 y28 y29 y30 = some r) : runE C 16 [agg [int .i64 y1, int .i64 y2,
 sl y3 y4, sl y5 y6, sl y7 y8, sl y9 y10, int .i64 y11, bool y12, sl y13 y14, int .i64 y15], agg [int .i64 y16, int .i64 y17, sl y18 y19, sl y20 y21, sl y22 y23, sl y24
 y25, int .i64 y26, bool y27, sl y28 y29, int .i64 y30]] = some r := ofR (j := 1) (F := fun s => T16 (orc C s.k) y1 y2 y3 y4 y5 y6 y7 y8 y9 y10 y11 y12 y13 y14 y15 y16 y17 y18 y19
 y20 y21 y22 y23 y24 y25 y26 y27 y28 y29 y30) (fun _ => by kernel_rfl) (by
  unfold T16
  repeat' first | (with_reducible first | exact cC | refine cN cR fun _ => ?_ | refine cT fun _ => ?_ | refine cF ?_ ?_ | refine cB fun _ => ?_ | refine cN cC fun _ => ?_ | exact cR)) h
def T18 (O : Orc) (y1 y2 : Int) (y3 : Nat) (y4 : List V) (y5 : Nat) (y6 : List V) (y7 : Nat) (y8 : List V) (y9 : Nat) (y10 : List V) (y11 y12 : Int) (y13
 : Nat) (y14 : List V) (y15 : Nat) (y16 : List V) (y17 : Nat) (y18 : List V) (y19 : Nat) (y20 : List V) : Option V := need (O.R 0 53 [agg [int .i64 y1, int .i64 y2, sl y3 y4, sl y5 y6, sl
 y7 y8], agg [int .i64 y11, int .i64 y12, sl y13 y14, sl y15 y16, sl y17 y18]]) fun x1 => asTup (some x1) fun x2 => PI.asBool x2[0]? fun x3 => bif !x3 then some (tup [bool false]) else
 need (O.R 0 56 [sl y9 y10, sl y19 y20]) fun x4 => asTup (some x4) fun x5 => PI.asBool x5[0]? fun x6 => bif !x6 then some (tup [bool false]) else some (tup [bool true])
theorem E18 (y1 y2 y3 y4 y5 y6 y7 y8 y9 y10 y11 y12 y13 y14 y15 y16 y17 y18 y19 y20) {r : V} (h : T18 (orcE C) y1 y2 y3 y4 y5 y6 y7 y8 y9 y10 y11 y12 y13 y14 y15 y16 y17 y18 y19 y20 = some r) : runE C 18
 [agg [int .i64 y1, int .i64 y2, sl y3 y4, sl y5 y6, sl y7 y8, sl y9 y10], agg [int .i64 y11, int .i64 y12, sl y13 y14, sl y15 y16, sl y17 y18, sl y19 y20]] = some r := ofR
 (j := 1) (F := fun s => T18 (orc C s.k) y1 y2 y3 y4 y5 y6 y7 y8 y9 y10 y11 y12 y13 y14 y15 y16 y17 y18 y19 y20) (fun _ => by kernel_rfl) (by
  unfold T18
  repeat' first | (with_reducible first | exact cC | refine cN cR fun _ => ?_ | refine cT fun _ => ?_ | refine cF ?_ ?_ | refine cB fun _ => ?_ | refine cN cC fun _ => ?_ | exact cR)) h
def T17 (O : Orc) (k : Nat) (y1 : Nat) (y2 : List V) (y3 : Nat) (y4 : List V) : Option V := bif (↑y1 : Int) != (↑y3 : Int) then some (tup [bool false]) else O.L 0 17 0 [true,
 true, false, true] [] k [(0, sl y1 y2), (1, sl y3 y4), (5, int .i64 0)] []
theorem E17 (y1 y2 y3 y4) {r : V} (h : T17 (orcE C) 0 y1 y2 y3 y4 = some r) : runE C 17 [sl y1 y2, sl y3 y4] = some r := ofR (j := 1) (F := fun s => T17 (orc C s.k) s.k y1 y2 y3 y4) (fun _ => by kernel_rfl) (by
  unfold T17
  repeat' first | (with_reducible first | exact cC | refine cF ?_ ?_) | exact cD0 gK) h
def T19 (O : Orc) (y1 y2 y3 : Int) (y4 : Bool) (y5 y6 : Int) (y7 : Nat) (y8 : List V) (y9 : Nat) (y10 : List V) (y11 : Nat) (y12 : List V) (y13 :
 Nat) (y14 : List V) (y15 : Nat) (y16 : List V) : Option V := need (O.W 0 57 [0, 1, 2] [agg [int .i64 y1, int .i64 y2, ref 0, ref 1, ref 2], int .i64 y6] [Ob.row 5 y7 y8 false, Ob.row 5
 y9 y10 false, Ob.row 5 y11 y12 false]) fun x1 => asTup (some x1) fun x2 => PI.asInt .i64 x2[0]? fun x3 => asOsl x2[1]? fun x4 x5 => asOsl x2[2]? fun x6 x7 => asOsl x2[3]? fun x8 x9 => need (O.W 0 20
 [0] [ref 0, int .i64 x3] [Ob.nrow [] 78 y13 y14]) fun x10 => asTup (some x10) fun x11 => PI.asInt .i64 x11[0]? fun x12 => asOsl x11[1]? fun x13 x14 => need (O.W 0 58 [0] [ref 0, int .i64 x12]
 [Ob.nrow [] 22 y15 y16]) fun x15 => asTup (some x15) fun x16 => PI.asInt .i64 x16[0]? fun x17 => asOsl x16[1]? fun x18 x19 => must (false || x5.all flatV) (must (false || x7.all flatV) (must (false ||
 x9.all flatV) (some (tup [int .i64 x17, osl x4 x5, osl x6 x7, osl x8 x9, osl x13 x14, osl x18 x19]))))
theorem E19 (y1 y2 y3 y4 y5 y6 y7 y8 y9 y10 y11 y12 y13 y14 y15) (y16
 : List V) {r : V} (h : T19 (orcE C) y1 y2 y3 y4 y5 y6 y7 y8 y9 y10 y11 y12 y13 y14 y15 y16 = some r) : runWE C 19 [0, 1, 2, 3, 4] [agg [int .i64 y1, int .i64 y2, ref 0, ref 1, ref
 2, ref 3, int .i64 y3, bool y4, ref 4, int .i64 y5], int .i64 y6] [Ob.row 5 y7 y8 false, Ob.row 5 y9 y10 false, Ob.row 5 y11 y12 false, Ob.nrow [] 78 y13 y14, Ob.nrow [] 22 y15 y16] = some
 r := ofW (j := 1) (F := fun s => T19 (orc C s.k) y1 y2 y3 y4 y5 y6 y7 y8 y9 y10 y11 y12 y13 y14 y15 y16) (fun _ => by kernel_rfl) (by
  unfold T19
  repeat' first | (with_reducible first | exact cC | refine cN cQ fun _ => ?_ | refine cT fun _ => ?_ | refine cI fun _ => ?_ | refine cM ?_ | refine cO fun _ _ => ?_ | refine cN cC fun _ => ?_ | exact cQ)) h
def T21 (O : Orc) (y1 y2 y3 : Int) (y4 : Nat) (y5 : List V) (y6 : Nat) (y7 : List V) (y8 : Nat) (y9 : List V) (y10 : Nat) (y11 : List V) : Option V :=
 need (O.W 0 57 [0, 1, 2] [agg [int .i64 y1, int .i64 y2, ref 0, ref 1, ref 2], int .i64 y3] [Ob.row 5 y4 y5 false, Ob.row 5 y6 y7 false, Ob.row 5 y8 y9 false]) fun x1 => asTup (some x1)
 fun x2 => PI.asInt .i64 x2[0]? fun x3 => asOsl x2[1]? fun x4 x5 => asOsl x2[2]? fun x6 x7 => asOsl x2[3]? fun x8 x9 => need (O.W 0 60 [0] [ref 0, int .i64 x3] [Ob.nrow [] 110 y10 y11]) fun x10 =>
 asTup (some x10) fun x11 => PI.asInt .i64 x11[0]? fun x12 => asOsl x11[1]? fun x13 x14 => must (false || x5.all flatV) (must (false || x7.all flatV) (must (false || x9.all flatV) (some (tup [int
 .i64 x12, osl x4 x5, osl x6 x7, osl x8 x9, osl x13 x14]))))
theorem E21 (y1 y2 y3 y4 y5 y6 y7 y8 y9 y10 y11) {r : V} (h : T21 (orcE C) y1 y2 y3 y4 y5 y6 y7
 y8 y9 y10 y11 = some r) : runWE C 21 [0, 1, 2, 3] [agg [int .i64 y1, int .i64 y2, ref 0, ref 1, ref 2, ref 3], int .i64 y3] [Ob.row 5 y4 y5 false, Ob.row 5 y6 y7 false, Ob.row 5 y8 y9
 false, Ob.nrow [] 110 y10 y11] = some r := ofW (j := 1) (F := fun s => T21 (orc C s.k) y1 y2 y3 y4 y5 y6 y7 y8 y9 y10 y11) (fun _ => by kernel_rfl) (by
  unfold T21
  repeat' first | (with_reducible first | exact cC | refine cN cQ fun _ => ?_ | refine cT fun _ => ?_ | refine cI fun _ => ?_ | refine cM ?_ | refine cO fun _ _ => ?_ | refine cN cC fun _ => ?_ | exact cQ)) h
def T20 (O : Orc) (k : Nat) (y1 : Int) (y2 : Nat) (y3 : List V) : Option V := O.X 0 20 [0] [Ob.nrow [] 78 0 []] 0 [true, false, true] [] k [(0, ref 0), (1, int .i64 y1), (5,
 int .i64 0)] [Ob.nrow [] 78 y2 y3]
theorem E20 (y1 y2 y3) {r : V} (h : T20 (orcE C) 0 y1 y2 y3 = some r) : runWE C 20 [0] [ref 0, int .i64 y1] [Ob.nrow [] 78 y2 y3] = some r := ofW (j := 1) (F := fun s
 => T20 (orc C s.k) s.k y1 y2 y3) (fun _ => by kernel_rfl) (by
  unfold T20
  repeat' first | with_reducible exact cC | exact cX0 gK) h
def T22 (O : Orc) (y1 y2 y3 y4 : Int) (y5 : Bool) (y6 y7 : Int) (y8 : Nat) (y9 : List V) (y10 : Nat) (y11 : List V) (y12 : Nat) (y13 :
 List V) (y14 : Nat) (y15 : List V) (y16 : Nat) (y17 : List V) : Option V := need (O.W 0 19 [0, 1, 2, 3, 4] [agg [int .i64 y2, int .i64 y3, ref 0, ref 1, ref 2, ref 3, int .i64 y4,
 bool y5, ref 4, int .i64 y6], int .i64 y7] [Ob.row 5 y8 y9 false, Ob.row 5 y10 y11 false, Ob.row 5 y12 y13 false, Ob.nrow [] 78 y14 y15, Ob.nrow [] 22 y16 y17]) fun x1 => asTup (some x1) fun
 x2 => PI.asInt .i64 x2[0]? fun x3 => asOsl x2[1]? fun x4 x5 => asOsl x2[2]? fun x6 x7 => asOsl x2[3]? fun x8 x9 => asOsl x2[4]? fun x10 x11 => asOsl x2[5]? fun x12 x13 => must (false || x5.all flatV)
 (must (false || x7.all flatV) (must (false || x9.all flatV) (some (tup [int .i64 x3, osl x4 x5, osl x6 x7, osl x8 x9, osl x10 x11, osl x12 x13]))))
theorem E22 (y1 y2 y3 y4 y5 y6 y7 y8 y9 y10 y11 y12 y13 y14 y15) (y16
 : Nat) (y17 : List V) {r : V} (h : T22 (orcE C) y1 y2 y3 y4 y5 y6 y7 y8 y9 y10 y11 y12 y13 y14 y15 y16 y17 = some r) : runWE C 22 [0, 1, 2, 3, 4] [agg [int .i64 y1, int .i64 y2, int
 .i64 y3, ref 0, ref 1, ref 2, ref 3, int .i64 y4, bool y5, ref 4, int .i64 y6], int .i64 y7] [Ob.row 5 y8 y9 false, Ob.row 5 y10 y11 false, Ob.row 5 y12 y13 false, Ob.nrow [] 78 y14
 y15, Ob.nrow [] 22 y16 y17] = some r := ofW (j := 1) (F := fun s => T22 (orc C s.k) y1 y2 y3 y4 y5 y6 y7 y8 y9 y10 y11 y12 y13 y14 y15 y16 y17) (fun _ => by kernel_rfl) (by
  unfold T22
  repeat' first | (with_reducible first | exact cC | refine cN cQ fun _ => ?_ | refine cT fun _ => ?_ | refine cI fun _ => ?_ | refine cM ?_ | refine cO fun _ _ => ?_ | refine cN cC fun _ => ?_ | exact cQ)) h
def T23 (O : Orc) (y1 y2 y3 : Int) (y4 : Nat) (y5 : List V) (y6 : Nat) (y7 : List V) (y8 : Nat) (y9 : List V) (y10 : Nat) (y11 : List V) (y12 : Int) (y13
 : Bool) (y14 : Nat) (y15 : List V) (y16 : Int) (y17 : Int) : Option V := need (O.R 0 61 [agg [int .i64 y2, int .i64 y3, sl y4 y5, sl y6 y7, sl y8 y9, sl y10 y11, int .i64 y12, bool
 y13, sl y14 y15, int .i64 y16], int .i64 y17]) fun x1 => asTup (some x1) fun x2 => PI.asInt .i64 x2[0]? fun x3 => bif decide (x3 < 0) then some (tup [int .i64 (-1)]) else some (tup [int
 .i64 x3])
theorem E23 (y1 y2 y3 y4 y5 y6 y7 y8 y9 y10 y11 y12 y13 y14 y15 y16 y17) {r : V} (h : T23 (orcE C) y1 y2 y3 y4 y5 y6 y7 y8 y9 y10 y11 y12 y13 y14 y15 y16 y17 = some r) : runE C 23 [agg [int .i64 y1, int .i64 y2, int .i64 y3, sl y4
 y5, sl y6 y7, sl y8 y9, sl y10 y11, int .i64 y12, bool y13, sl y14 y15, int .i64 y16], int .i64 y17] = some r := ofR (j := 1) (F := fun s => T23 (orc C s.k) y1 y2 y3 y4 y5
 y6 y7 y8 y9 y10 y11 y12 y13 y14 y15 y16 y17) (fun _ => by kernel_rfl) (by
  unfold T23
  repeat' first | (with_reducible first | exact cC | refine cN cR fun _ => ?_ | refine cT fun _ => ?_ | refine cI fun _ => ?_ | refine cF ?_ ?_ | refine cN cC fun _ => ?_ | exact cR)) h
def T30 (O : Orc) (y1 y2 : Int) (y3 : Nat) (y4 : List V) (y5 : Nat) (y6 : List V) (y7 : Nat) (y8 : List V) (y9 : Int) : Option V := need (O.R 0 69 [sl y3 y4,
 int .i64 y9]) fun x1 => asTup (some x1) fun x2 => PI.asInt .i64 x2[0]? fun x3 => bif decide (x3 < 0) then some (tup [int .i64 (-1)]) else need (O.R 0 69 [sl y5 y6, int .i64 x3]) fun x4 =>
 asTup (some x4) fun x5 => PI.asInt .i64 x5[0]? fun x6 => bif decide (x6 < 0) then some (tup [int .i64 (-1)]) else need (O.R 0 69 [sl y7 y8, int .i64 x6]) fun x7 => asTup (some x7) fun x8 =>
 PI.asInt .i64 x8[0]? fun x9 => bif decide (x9 < 0) then some (tup [int .i64 (-1)]) else some (tup [int .i64 x9])
theorem E30 (y1 y2 y3 y4 y5 y6 y7 y8 y9) {r : V} (h : T30 (orcE C) y1 y2 y3 y4 y5 y6 y7 y8 y9 = some r) : runE C
 30 [agg [int .i64 y1, int .i64 y2, sl y3 y4, sl y5 y6, sl y7 y8], int .i64 y9] = some r := ofR (j := 1) (F := fun s => T30 (orc C s.k) y1 y2 y3 y4 y5 y6 y7 y8 y9) (fun _ =>
 by kernel_rfl) (by
  unfold T30
  repeat' first | (with_reducible first | exact cC | refine cN cR fun _ => ?_ | refine cT fun _ => ?_ | refine cI fun _ => ?_ | refine cF ?_ ?_ | refine cN cC fun _ => ?_ | exact cR)) h
def T31 (O : Orc) (k : Nat) (y1 : Nat) (y2 : List V) (y3 : Int) : Option V := bif decide (i64.wrap (y3 - (↑y1 : Int)) < 0) then some (tup [int .i64 (-1)]) else O.L 0
 31 0 [true, true, true, false, true] [] k [(0, sl y1 y2), (1, int .i64 (i64.wrap (y3 - (↑y1 : Int)))), (5, int .i64 0)] []
theorem E31 (y1 y2 y3) {r : V} (h : T31 (orcE C) 0 y1 y2 y3 = some r) : runE C 31 [sl y1 y2, int .i64 y3] = some r := ofR (j := 1) (F := fun s => T31 (orc C s.k) s.k y1 y2 y3) (fun _ => by kernel_rfl) (by
  unfold T31
  repeat' first | (with_reducible first | exact cC | refine cF ?_ ?_) | exact cD0 gK) h
def T33 (O : Orc) (k : Nat) (y1 : Nat) (y2 : List V) (y3 : Int) : Option V := bif decide (i64.wrap (y3 - (↑y1 : Int)) < 0) then some (tup [int .i64 (-1)]) else O.L 0
 33 0 [true, true, true, false, true] [] k [(0, sl y1 y2), (1, int .i64 (i64.wrap (y3 - (↑y1 : Int)))), (5, int .i64 0)] []
theorem E33 (y1 y2 y3) {r : V} (h : T33 (orcE C) 0 y1 y2 y3 = some r) : runE C 33 [sl y1 y2, int .i64 y3] = some r := ofR (j := 1) (F := fun s => T33 (orc C s.k) s.k y1 y2 y3) (fun _ => by kernel_rfl) (by
  unfold T33
  repeat' first | (with_reducible first | exact cC | refine cF ?_ ?_) | exact cD0 gK) h
def T8l1 (O : Orc) (m : Nat) (y1 : Nat) (y2 : List V) (y3 y4 : Int) : Option V := bif decide (y4 < (↑y1 : Int)) then must (inB y4 y1) (asSl y2[y4.toNat * 2]? fun x1 x2 =>
 PI.asInt .i64 y2[y4.toNat * 2 + 1]? fun x3 => need (O.R 0 32 [agg [sl x1 x2, int .i64 x3], int .i64 y3]) fun x4 => asTup (some x4) fun x5 => PI.asInt .i64 x5[0]? fun x6 => bif decide (x6 < 0)
 then some (tup [int .i64 (-1)]) else O.L 0 8 0 [true, true, true, false, true] [] m [(0, sl y1 y2), (1, int .i64 x6), (5, int .i64 (i64.wrap (y4 + 1)))] []) else some (tup [int
 .i64 y3])
theorem E8l1 (y1 y2 y3 y4) {r : V} (h : T8l1 (orcE C) 0 y1 y2 y3 y4 = some r) : loopE C 8 0 [true, true, true, false, true] [] [(0, sl y1 y2), (1, int .i64
 y3), (5, int .i64 y4)] [] = some r := ofL (j := 0) (F := fun s => T8l1 (orc C s.k) s.m y1 y2 y3 y4) (fs0 fun _ _ => by kernel_rfl) (by
  unfold T8l1
  repeat' first | (with_reducible first | exact cC | refine cN cR fun _ => ?_ | refine cT fun _ => ?_ | refine cI fun _ => ?_ | refine cM ?_ | refine cF ?_ ?_ | refine cL fun _ _ => ?_ | refine cN cC fun _ => ?_ | exact cR) | exact cD0 gM) h
def T42 (O : Orc) (y1 y2 : Int) (y3 : Nat) (y4 : List V) (y5 : Nat) (y6 : List V) (y7 : Nat) (y8 : List V) : Option V := need (O.R 0 86 [sl y3 y4]) fun x1 =>
 asTup (some x1) fun x2 => asOsl x2[0]? fun x3 x4 => need (O.R 0 86 [sl y5 y6]) fun x5 => asTup (some x5) fun x6 => asOsl x6[0]? fun x7 x8 => need (O.R 0 86 [sl y7 y8]) fun x9 => asTup (some x9)
 fun x10 => asOsl x10[0]? fun x11 x12 => must (false || x4.all flatV) (must (false || x8.all flatV) (must (false || x12.all flatV) (some (tup [int .i64 y1, int .i64 y2, osl x3 x4, osl x7 x8,
 osl x11 x12]))))
theorem E42 (y1 y2 y3 y4 y5 y6 y7 y8) {r : V} (h : T42 (orcE C) y1 y2 y3 y4 y5 y6 y7 y8 = some r) : runE C 42 [agg
 [int .i64 y1, int .i64 y2, sl y3 y4, sl y5 y6, sl y7 y8]] = some r := ofR (j := 1) (F := fun s => T42 (orc C s.k) y1 y2 y3 y4 y5 y6 y7 y8) (fun _ => by kernel_rfl) (by
  unfold T42
  repeat' first | (with_reducible first | exact cC | refine cN cR fun _ => ?_ | refine cT fun _ => ?_ | refine cM ?_ | refine cO fun _ _ => ?_ | refine cN cC fun _ => ?_ | exact cR)) h
def T43 (O : Orc) (k : Nat) (y1 : Nat) (y2 : List V) : Option V := must (decide ((↑y1 : Int) = (↑y1 : Int)) && decide (0 ≤ (↑y1 : Int)) && decide ((↑y1 : Int) ≤ 140737488355328)
 && decide ((↑y1 : Int) * 24 ≤ 140737488355328)) (O.L 0 43 0 [true, true, false, true] [] k [(0, sl y1 y2), (3, ref 0), (4, int .i64 0)] [Ob.nrow [] 22 (↑y1 : Int).toNat (reps (↑y1 : Int).toNat
 [nilsl])])
theorem E43 (y1 y2) {r : V} (h : T43 (orcE C) 0 y1 y2 = some r) : runE C 43 [sl y1 y2] = some r := ofR (j := 1) (F := fun s => T43 (orc C s.k) s.k y1 y2) (fun _ => by
 kernel_rfl) (by
  unfold T43
  repeat' first | (with_reducible first | exact cC | refine cM ?_) | exact cD0 gK) h
def T45 (O : Orc) (k : Nat) (y1 : Nat) (y2 : List V) : Option V := must (decide ((↑y1 : Int) = (↑y1 : Int)) && decide (0 ≤ (↑y1 : Int)) && decide ((↑y1 : Int) ≤ 140737488355328)
 && decide ((↑y1 : Int) * 80 ≤ 140737488355328)) (O.L 0 45 0 [true, true, false, true] [] k [(0, sl y1 y2), (3, ref 0), (4, int .i64 0)] [Ob.nrow [] 110 (↑y1 : Int).toNat (reps (↑y1 : Int).toNat
 [int .i64 0, int .i64 0, nilsl, int .i64 0, int .i64 0, nilsl])])
theorem E45 (y1 y2) {r : V} (h : T45 (orcE C) 0 y1 y2 = some r) : runE C 45 [sl y1 y2] = some r := ofR (j := 1) (F := fun s => T45 (orc C s.k) s.k y1 y2) (fun _ => by
 kernel_rfl) (by
  unfold T45
  repeat' first | (with_reducible first | exact cC | refine cM ?_) | exact cD0 gK) h
def T12l1 (O : Orc) (m : Nat) (y1 : Nat) (y2 : List V) (y3 : Int) (y4 : Nat) (y5 : List V) : Option V := bif decide (y3 < (↑y1 : Int)) then must (inB y3 y1) (asSl y2[y3.toNat *
 2]? fun x1 x2 => PI.asInt .i64 y2[y3.toNat * 2 + 1]? fun x3 => need (O.R 0 44 [agg [sl x1 x2, int .i64 x3]]) fun x4 => asTup (some x4) fun x5 => asOsl x5[0]? fun x6 x7 => PI.asInt .i64 x5[1]?
 fun x8 => must (inB y3 y4) (must (x7.all flatV) (must ([own false 5 1 x6 x7, int .i64 x8].length.beq 2 && (y3.toNat * 2 + [own false 5 1 x6 x7, int .i64 x8].length).ble y5.length) (O.L 0 12 0
 [true, true, false, true] [] m [(0, sl y1 y2), (3, ref 0), (4, int .i64 (i64.wrap (y3 + 1)))] [Ob.nrow [] 78 y4 (splice y5 (y3.toNat * 2) [own false 5 1 x6 x7, int .i64 x8])]))))
 else some (tup [osl y4 y5])
theorem E12l1 (y1 y2 y3 y4 y5) {r : V} (h : T12l1 (orcE C) 0 y1 y2 y3 y4 y5 = some r) : loopE C 12 0 [true, true, false, true] [] [(0, sl y1 y2), (3,
 ref 0), (4, int .i64 y3)] [Ob.nrow [] 78 y4 y5] = some r := ofL (j := 0) (F := fun s => T12l1 (orc C s.k) s.m y1 y2 y3 y4 y5) (fs0 fun _ _ => by kernel_rfl) (by
  unfold T12l1
  repeat' first | (with_reducible first | exact cC | refine cN cR fun _ => ?_ | refine cT fun _ => ?_ | refine cI fun _ => ?_ | refine cM ?_ | refine cF ?_ ?_ | refine cL fun _ _ => ?_ | refine cO fun _ _ => ?_ | refine cN cC fun _ => ?_ | exact cR) | exact cD0 gM) h
def T62 (O : Orc) (y1 y2 : Int) (y3 : Nat) (y4 : List V) (y5 : Nat) (y6 : List V) (y7 : Nat) (y8 : List V) (y9 : Nat) (y10 : List V) (y11 : Int) (y12 : Bool) (y13 : Nat) (y14 : List V) (y15 y16 : Int) : Option V := need (O.R 0 34 [agg [int .i64 y1, int .i64 y2, sl y3 y4, sl y5 y6, sl y7 y8, sl y9 y10, int .i64 y11, bool y12, sl
 y13 y14, int .i64 y15]]) fun x1 => asTup (some x1) fun x2 => PI.asInt .i64 x2[0]? fun x3 => bif x3 != 0 then some (tup [int .i64 x3]) else bif y12 then some (tup [int .i64 9]) else need (O.R
 0 35 [pin [int .i64 y1, int .i64 y2, sl y3 y4, sl y5 y6, sl y7 y8, sl y9 y10, int .i64 y11, bool y12, sl y13 y14, int .i64 y15] 0, int .i64 y16]) fun x4 => asTup (some x4) fun
 x5 => PI.asBool x5[0]? fun x6 => bif x6 then some (tup [int .i64 10]) else some (tup [int .i64 0])
theorem E62 (y1 y2 y3 y4 y5 y6 y7 y8 y9 y10 y11 y12 y13 y14 y15 y16) {r : V} (h : T62 (orcE C) y1 y2 y3 y4 y5 y6 y7 y8 y9 y10 y11 y12 y13 y14 y15 y16 = some r) : runE C 62 [agg [int .i64 y1, int .i64 y2, sl y3 y4, sl y5 y6, sl y7 y8,
 sl y9 y10, int .i64 y11, bool y12, sl y13 y14, int .i64 y15], int .i64 y16] = some r := ofR (j := 1) (F := fun s => T62 (orc C s.k) y1 y2 y3 y4 y5 y6 y7 y8 y9 y10 y11 y12 y13
 y14 y15 y16) (fun _ => by kernel_rfl) (by
  unfold T62
  repeat' first | (with_reducible first | exact cC | refine cN cR fun _ => ?_ | refine cT fun _ => ?_ | refine cI fun _ => ?_ | refine cF ?_ ?_ | refine cB fun _ => ?_ | refine cN cC fun _ => ?_ | exact cR)) h
def T63 (O : Orc) (y1 y2 : Int) (y3 : Nat) (y4 : List V) (y5 : Nat) (y6 : List V) (y7 : Nat) (y8 : List V) (y9 : Nat) (y10 : List V) (y11 : Int) (y12 : Bool) (y13 : Nat) (y14 : List V) (y15 y16 y17 : Int) (y18 : Nat) (y19 : List V) (y20 : Nat) (y21 : List V) (y22 : Nat) (y23 : List V) (y24 : Nat) (y25 : List V) (y26 : Nat) (y27 : List V) (y28 : Int) : Option V := need (O.R 0 36 [sl y9 y10, agg [int .i64 y16, int .i64 y17, sl y18 y19, sl y20 y21, sl y22 y23, sl y24 y25]]) fun x1 => asTup (some x1) fun x2 => PI.asInt
 .i64 x2[0]? fun x3 => bif x3 != 0 then some (tup [int .i64 x3, int .i64 0, int .i64 0, sl 0 [], sl 0 [], sl 0 [], sl 0 [], int .i64 0, bool false, sl 0 [], int .i64 0]) else
 bif y16 != i64.wrap (y1 + 1) then some (tup [int .i64 3, int .i64 0, int .i64 0, sl 0 [], sl 0 [], sl 0 [], sl 0 [], int .i64 0, bool false, sl 0 [], int .i64 0]) else
 bif decide (y17 ≤ y2) then some (tup [int .i64 3, int .i64 0, int .i64 0, sl 0 [], sl 0 [], sl 0 [], sl 0 [], int .i64 0, bool false, sl 0 [], int .i64 0]) else bif decide (y17
 > y28) then some (tup [int .i64 3, int .i64 0, int .i64 0, sl 0 [], sl 0 [], sl 0 [], sl 0 [], int .i64 0, bool false, sl 0 [], int .i64 0]) else need (O.R 0 39 [sl y9 y10,
 agg [int .i64 y16, int .i64 y17, sl y18 y19, sl y20 y21, sl y22 y23, sl y24 y25]]) fun x4 => asTup (some x4) fun x5 => PI.asBool x5[0]? fun x6 => bif !x6 then some (tup [int .i64 6,
 int .i64 0, int .i64 0, sl 0 [], sl 0 [], sl 0 [], sl 0 [], int .i64 0, bool false, sl 0 [], int .i64 0]) else need (O.R 0 109 [agg [int .i64 y1, int .i64 y2, sl y3 y4,
 sl y5 y6, sl y7 y8, sl y9 y10, int .i64 y11, bool y12, sl y13 y14, int .i64 y15], agg [int .i64 y16, int .i64 y17, sl y18 y19, sl y20 y21, sl y22 y23, sl y24 y25], sl y26
 y27]) fun x7 => asTup (some x7) fun x8 => PI.asInt .i64 x8[0]? fun x9 => PI.asInt .i64 x8[1]? fun x10 => PI.asInt .i64 x8[2]? fun x11 => asSl x8[3]? fun x12 x13 => asSl x8[4]? fun x14 x15 => asSl
 x8[5]? fun x16 x17 => asSl x8[6]? fun x18 x19 => PI.asInt .i64 x8[7]? fun x20 => PI.asBool x8[8]? fun x21 => asSl x8[9]? fun x22 x23 => PI.asInt .i64 x8[10]? fun x24 => some (tup [int .i64 x9,
 int .i64 x10, int .i64 x11, sl x12 x13, sl x14 x15, sl x16 x17, sl x18 x19, int .i64 x20, bool x21, sl x22 x23, int .i64 x24])
theorem E63 (y1 y2 y3 y4 y5 y6 y7 y8 y9 y10 y11 y12 y13 y14 y15 y16 y17 y18 y19 y20 y21 y22 y23 y24 y25 y26 y27 y28) {r : V} (h : T63 (orcE C) y1 y2 y3 y4 y5 y6 y7 y8 y9 y10 y11 y12 y13 y14 y15 y16 y17 y18 y19 y20 y21 y22 y23 y24 y25 y26 y27 y28 = some r) : runE C 63 [agg [int .i64 y1, int .i64 y2, sl y3 y4, sl y5 y6, sl y7
 y8, sl y9 y10, int .i64 y11, bool y12, sl y13 y14, int .i64 y15], agg [int .i64 y16, int .i64 y17, sl y18 y19, sl y20 y21, sl y22 y23, sl y24 y25], sl y26 y27, int .i64
 y28] = some r := ofR (j := 1) (F := fun s => T63 (orc C s.k) y1 y2 y3 y4 y5 y6 y7 y8 y9 y10 y11 y12 y13 y14 y15 y16 y17 y18 y19 y20 y21 y22 y23 y24 y25 y26 y27 y28) (fun _ => by
 kernel_rfl) (by
  unfold T63
  repeat' first | (with_reducible first | exact cC | refine cN cR fun _ => ?_ | refine cT fun _ => ?_ | refine cI fun _ => ?_ | refine cF ?_ ?_ | refine cB fun _ => ?_ | refine cL fun _ _ => ?_ | refine cN cC fun _ => ?_ | exact cR)) h
def T64 (O : Orc) (y1 y2 : Int) (y3 : Nat) (y4 : List V) (y5 : Nat) (y6 : List V) (y7 : Nat) (y8 : List V) (y9 : Nat) (y10 : List V) (y11 : Int) (y12 : Bool) (y13 : Nat) (y14 : List V) (y15 y16 : Int) : Option V := need (O.R 0 46 [agg [int .i64 y1, int .i64 y2, sl y3 y4, sl y5 y6, sl y7 y8, sl y9 y10, int .i64 y11, bool y12, sl
 y13 y14, int .i64 y15]]) fun x1 => asTup (some x1) fun x2 => PI.asInt .i64 x2[0]? fun x3 => bif x3 != 0 then some (tup [int .i64 x3]) else bif y12 then some (tup [int .i64 9]) else need (O.R
 0 47 [agg [int .i64 y1, int .i64 y2, sl y3 y4, sl y5 y6, sl y7 y8, sl y9 y10, int .i64 y11, bool y12, sl y13 y14, int .i64 y15], int .i64 y16]) fun x4 => asTup (some x4) fun x5
 => PI.asBool x5[0]? fun x6 => bif x6 then some (tup [int .i64 10]) else some (tup [int .i64 0])
theorem E64 (y1 y2 y3 y4 y5 y6 y7 y8 y9 y10 y11 y12 y13 y14 y15 y16) {r : V} (h : T64 (orcE C) y1 y2 y3 y4 y5 y6 y7 y8 y9 y10 y11 y12 y13 y14 y15 y16 = some r) : runE C 64 [agg [int .i64 y1, int .i64 y2, sl y3 y4, sl y5 y6, sl y7 y8,
 sl y9 y10, int .i64 y11, bool y12, sl y13 y14, int .i64 y15], int .i64 y16] = some r := ofR (j := 1) (F := fun s => T64 (orc C s.k) y1 y2 y3 y4 y5 y6 y7 y8 y9 y10 y11 y12 y13
 y14 y15 y16) (fun _ => by kernel_rfl) (by
  unfold T64
  repeat' first | (with_reducible first | exact cC | refine cN cR fun _ => ?_ | refine cT fun _ => ?_ | refine cI fun _ => ?_ | refine cF ?_ ?_ | refine cB fun _ => ?_ | refine cN cC fun _ => ?_ | exact cR)) h
def T48 (O : Orc) (k : Nat) (y1 : Nat) (y2 : List V) (y3 y4 : Int) (y5 : Nat) (y6 : List V) (y7 : Nat) (y8 : List V) (y9 : Nat) (y10 : List V) (y11 : Nat) (y12 : List V) :
 Option V := need (O.R 0 89 [sl y1 y2]) fun x1 => asTup (some x1) fun x2 => PI.asInt .i64 x2[0]? fun x3 => bif x3 != 0 then some (tup [int .i64 x3]) else need (O.R 0 88 [agg [int .i64 y3,
 int .i64 y4, sl y5 y6, sl y7 y8, sl y9 y10]]) fun x4 => asTup (some x4) fun x5 => PI.asInt .i64 x5[0]? fun x6 => bif x6 != 0 then some (tup [int .i64 x6]) else need (O.R 0 90 [sl y1 y2])
 fun x7 => asTup (some x7) fun x8 => asSl x8[0]? fun x9 x10 => need (O.R 0 49 [sl y7 y8, sl x9 x10]) fun x11 => asTup (some x11) fun x12 => PI.asBool x12[0]? fun x13 => bif !x13 then some (tup
 [int .i64 1]) else bif decide ((↑y11 : Int) > 5) then some (tup [int .i64 2]) else need (O.R 0 50 [agg [int .i64 y3, int .i64 y4, sl y5 y6, sl y7 y8, sl y9 y10]]) fun x14 => asTup
 (some x14) fun x15 => asSl x15[0]? fun x16 x17 => O.L 0 48 1 [true, true, true, true, true, false, true] [] k [(0, sl y1 y2), (7, int .i64 (-1)), (8, sl x16 x17), (39, sl y11 y12), (40, int
 .i64 (↑y11 : Int)), (41, int .i64 0)] []
theorem E48 (y1 y2 y3 y4 y5 y6 y7 y8 y9 y10 y11 y12) {r : V} (h : T48 (orcE C) 0 y1 y2
 y3 y4 y5 y6 y7 y8 y9 y10 y11 y12 = some r) : runE C 48 [sl y1 y2, agg [int .i64 y3, int .i64 y4, sl y5 y6, sl y7 y8, sl y9 y10, sl y11 y12]] = some r := ofR (j := 1) (F := fun s => T48 (orc C s.k) s.k y1 y2 y3 y4 y5 y6 y7 y8 y9 y10 y11 y12) (fun _ => by kernel_rfl) (by
  unfold T48
  repeat' first | (with_reducible first | exact cC | refine cN cR fun _ => ?_ | refine cT fun _ => ?_ | refine cI fun _ => ?_ | refine cF ?_ ?_ | refine cB fun _ => ?_ | refine cL fun _ _ => ?_ | refine cN cC fun _ => ?_ | exact cR) | exact cD0 gK) h
def T65 (O : Orc) (y1 y2 : Int) (y3 : Nat) (y4 : List V) (y5 : Nat) (y6 : List V) (y7 : Nat) (y8 : List V) (y9 : Nat) (y10 : List V) (y11 : Int) (y12 : Bool) (y13 : Nat) (y14 : List V) (y15 y16 y17 : Int) (y18 : Nat) (y19 : List V) (y20 : Nat) (y21 : List V) (y22 : Nat) (y23 : List V) (y24 : Bool) (y25 : Int) : Option V := bif !y24 then
 some (tup [int .i64 3]) else bif decide (y17 ≤ y2) then some (tup [int .i64 3]) else bif decide (y17 > y25) then some (tup [int .i64 3]) else some (tup [int .i64 0])
theorem E65 (y1 y2 y3 y4 y5 y6 y7 y8 y9 y10 y11 y12 y13 y14 y15 y16 y17 y18 y19 y20 y21 y22 y23 y24 y25) {r : V} (h : T65 (orcE C) y1 y2 y3 y4 y5 y6 y7 y8 y9 y10 y11
 y12 y13 y14 y15 y16 y17 y18 y19 y20 y21 y22 y23 y24 y25 = some r) : runE C 65 [agg [int .i64 y1, int .i64 y2, sl y3 y4, sl y5 y6, sl y7 y8, sl y9 y10, int .i64 y11, bool y12, sl
 y13 y14, int .i64 y15], agg [int .i64 y16, int .i64 y17, sl y18 y19, sl y20 y21, sl y22 y23], bool y24, int .i64 y25] = some r := ofR (j := 1) (F := fun s => T65 (orc C s.k) y1 y2 y3 y4 y5 y6 y7 y8 y9 y10 y11 y12 y13 y14 y15 y16 y17 y18 y19 y20 y21 y22 y23 y24 y25) (fun _ => by kernel_rfl) (by
  unfold T65
  repeat' first | (with_reducible first | exact cC | refine cF ?_ ?_)) h
def T66 (O : Orc) (y1 : Nat) (y2 : List V) (y3 y4 : Int) (y5 : Nat) (y6 : List V) (y7 : Nat) (y8 : List V) (y9 : Nat) (y10 : List V) (y11 : Nat) (y12 : List V) :
 Option V := need (O.R 0 110 [sl y1 y2, agg [int .i64 y3, int .i64 y4, sl y5 y6, sl y7 y8, sl y9 y10, sl y11 y12]]) fun x1 => asTup (some x1) fun x2 => PI.asInt .i64 x2[0]? fun x3 =>
 need (O.R 0 100 [sl y1 y2]) fun x4 => asTup (some x4) fun x5 => PI.asInt .i64 x5[0]? fun x6 => some (tup [bool (decide (i64.wrap (3 * x3) > i64.wrap (2 * x6)))])
theorem E66 (y1 y2 y3 y4 y5 y6 y7 y8 y9 y10 y11 y12) {r : V} (h : T66 (orcE C) y1 y2
 y3 y4 y5 y6 y7 y8 y9 y10 y11 y12 = some r) : runE C 66 [sl y1 y2, agg [int .i64 y3, int .i64 y4, sl y5 y6, sl y7 y8, sl y9 y10, sl y11 y12]] = some r := ofR (j := 1) (F := fun s => T66 (orc C s.k) y1 y2 y3 y4 y5 y6 y7 y8 y9 y10 y11 y12) (fun _ => by kernel_rfl) (by
  unfold T66
  repeat' first | (with_reducible first | exact cC | refine cN cR fun _ => ?_ | refine cT fun _ => ?_ | refine cI fun _ => ?_ | refine cN cC fun _ => ?_ | exact cR)) h
def T67 (O : Orc) (k : Nat) (y1 y2 : Int) (y3 : Nat) (y4 : List V) (y5 : Nat) (y6 : List V) (y7 : Nat) (y8 : List V) (y9 : Nat) (y10 : List V) (y11 : Int) (y12 : Bool) (y13 : Nat) (y14 : List V) (y15 y16 y17 : Int) (y18 : Nat) (y19 : List V) (y20 : Nat) (y21 : List V) (y22 : Nat) (y23 : List V) (y24 : Nat) (y25 : List V) : Option V := need (O.R 0 89
 [sl y24 y25]) fun x1 => asTup (some x1) fun x2 => PI.asInt .i64 x2[0]? fun x3 => bif x3 != 0 then some (tup [int .i64 x3, int .i64 0, int .i64 0, osl 0 [], osl 0 [], osl 0 [], osl 0
 [], int .i64 0, bool false, osl 0 [], int .i64 0]) else need (O.R 0 90 [sl y24 y25]) fun x4 => asTup (some x4) fun x5 => asSl x5[0]? fun x6 x7 => need (O.R 0 49 [sl y22 y23, sl x6 x7])
 fun x8 => asTup (some x8) fun x9 => PI.asBool x9[0]? fun x10 => bif !x10 then some (tup [int .i64 1, int .i64 0, int .i64 0, osl 0 [], osl 0 [], osl 0 [], osl 0 [], int .i64 0,
 bool false, osl 0 [], int .i64 0]) else need (O.R 0 111 [sl y13 y14]) fun x11 => asTup (some x11) fun x12 => asOsl x12[0]? fun x13 x14 => O.L 0 67 0 [true, true, true, true, true, true, false,
 true] [] k [(4, ptr 0 0), (6, ptr 1 0), (8, ptr 7 0), (51, int .i64 (if 24 < i64.wrap (i64.wrap (y16 - y1) - 1) then 24 else i64.wrap (i64.wrap (y16 - y1) -
 1))), (52, int .i64 0)] [Ob.box 35 [int .i64 y16, int .i64 y17, sl y18 y19, sl y20 y21, sl y22 y23] false, Ob.box 40 [int .i64 0, int .i64 0, int .i64 0, ref 2, ref 3, ref 4,
 ref 5, int .i64 0, bool false, ref 6, int .i64 0] false, Ob.row 5 0 [] false, Ob.row 5 0 [] false, Ob.row 5 0 [] false, Ob.row 78 0 [] false, Ob.nrow [] 22 0 [], Ob.box 38 [int .i64 y16,
 int .i64 y17, sl y18 y19, sl y20 y21, sl y22 y23, sl y24 y25, int .i64 y11, bool false, ref 8, int .i64 (i64.wrap (i64.wrap (y16 - if 24 < i64.wrap
 (i64.wrap (y16 - y1) - 1) then 24 else i64.wrap (i64.wrap (y16 - y1) - 1)) - (↑x13 : Int)))] false, Ob.row 22 x13 x14 false]
theorem E67 (y1 y2 y3 y4 y5 y6 y7 y8 y9 y10 y11 y12 y13 y14 y15 y16 y17 y18 y19 y20 y21 y22 y23 y24 y25) {r : V} (h : T67 (orcE C) 0 y1 y2 y3 y4 y5 y6 y7 y8 y9 y10 y11
 y12 y13 y14 y15 y16 y17 y18 y19 y20 y21 y22 y23 y24 y25 = some r) : runE C 67 [agg [int .i64 y1, int .i64 y2, sl y3 y4, sl y5 y6, sl y7 y8, sl y9 y10, int .i64 y11, bool y12, sl
 y13 y14, int .i64 y15], agg [int .i64 y16, int .i64 y17, sl y18 y19, sl y20 y21, sl y22 y23], sl y24 y25] = some r := ofR (j := 1) (F := fun s => T67 (orc C s.k) s.k y1 y2 y3
 y4 y5 y6 y7 y8 y9 y10 y11 y12 y13 y14 y15 y16 y17 y18 y19 y20 y21 y22 y23 y24 y25) (fun _ => by kernel_rfl) (by
  unfold T67
  repeat' first | (with_reducible first | exact cC | refine cN cR fun _ => ?_ | refine cT fun _ => ?_ | refine cI fun _ => ?_ | refine cF ?_ ?_ | refine cB fun _ => ?_ | refine cL fun _ _ => ?_ | refine cO fun _ _ => ?_ | refine cN cC fun _ => ?_ | exact cR) | exact cD0 gK) h
def T53 (O : Orc) (y1 y2 : Int) (y3 : Nat) (y4 : List V) (y5 : Nat) (y6 : List V) (y7 : Nat) (y8 : List V) (y9 y10 : Int) (y11 : Nat) (y12 : List V) (y13
 : Nat) (y14 : List V) (y15 : Nat) (y16 : List V) : Option V := bif y1 != y9 then some (tup [bool false]) else bif y2 != y10 then some (tup [bool false]) else need (O.R 0 104 [sl y3 y4, sl
 y11 y12]) fun x1 => asTup (some x1) fun x2 => PI.asBool x2[0]? fun x3 => bif !x3 then some (tup [bool false]) else need (O.R 0 104 [sl y5 y6, sl y13 y14]) fun x4 => asTup (some x4) fun x5 =>
 PI.asBool x5[0]? fun x6 => bif !x6 then some (tup [bool false]) else need (O.R 0 104 [sl y7 y8, sl y15 y16]) fun x7 => asTup (some x7) fun x8 => PI.asBool x8[0]? fun x9 => bif !x9 then some
 (tup [bool false]) else some (tup [bool true])
theorem E53 (y1 y2 y3 y4 y5 y6 y7 y8 y9 y10 y11 y12 y13 y14 y15 y16) {r : V} (h : T53 (orcE C) y1 y2 y3 y4 y5 y6 y7 y8 y9 y10 y11 y12 y13 y14 y15 y16 = some r) : runE C 53 [agg [int .i64 y1, int .i64 y2, sl y3 y4, sl y5 y6, sl y7 y8],
 agg [int .i64 y9, int .i64 y10, sl y11 y12, sl y13 y14, sl y15 y16]] = some r := ofR (j := 1) (F := fun s => T53 (orc C s.k) y1 y2 y3 y4 y5 y6 y7 y8 y9 y10 y11 y12 y13 y14 y15
 y16) (fun _ => by kernel_rfl) (by
  unfold T53
  repeat' first | (with_reducible first | exact cC | refine cN cR fun _ => ?_ | refine cT fun _ => ?_ | refine cF ?_ ?_ | refine cB fun _ => ?_ | refine cN cC fun _ => ?_ | exact cR)) h
def T54 (O : Orc) (k : Nat) (y1 : Nat) (y2 : List V) (y3 : Nat) (y4 : List V) : Option V := bif (↑y1 : Int) != (↑y3 : Int) then some (tup [bool false]) else O.L 0 54 0 [true,
 true, false, true] [] k [(0, sl y1 y2), (1, sl y3 y4), (5, int .i64 0)] []
theorem E54 (y1 y2 y3 y4) {r : V} (h : T54 (orcE C) 0 y1 y2 y3 y4 = some r) : runE C 54 [sl y1 y2, sl y3 y4] = some r := ofR (j := 1) (F := fun s => T54 (orc C s.k) s.k y1 y2 y3 y4) (fun _ => by kernel_rfl) (by
  unfold T54
  repeat' first | (with_reducible first | exact cC | refine cF ?_ ?_) | exact cD0 gK) h
def T56 (O : Orc) (k : Nat) (y1 : Nat) (y2 : List V) (y3 : Nat) (y4 : List V) : Option V := bif (↑y1 : Int) != (↑y3 : Int) then some (tup [bool false]) else O.L 0 56 0 [true,
 true, false, true] [] k [(0, sl y1 y2), (1, sl y3 y4), (5, int .i64 0)] []
theorem E56 (y1 y2 y3 y4) {r : V} (h : T56 (orcE C) 0 y1 y2 y3 y4 = some r) : runE C 56 [sl y1 y2, sl y3 y4] = some r := ofR (j := 1) (F := fun s => T56 (orc C s.k) s.k y1 y2 y3 y4) (fun _ => by kernel_rfl) (by
  unfold T56
  repeat' first | (with_reducible first | exact cC | refine cF ?_ ?_) | exact cD0 gK) h
def T17l1 (O : Orc) (m : Nat) (y1 : Nat) (y2 : List V) (y3 : Nat) (y4 : List V) (y5 : Int) : Option V := bif decide (y5 < (↑y1 : Int)) then must (inB y5 y1) (asSl y2[y5.toNat *
 2]? fun x1 x2 => PI.asInt .i64 y2[y5.toNat * 2 + 1]? fun x3 => must (inB y5 y3) (asSl y4[y5.toNat * 2]? fun x4 x5 => PI.asInt .i64 y4[y5.toNat * 2 + 1]? fun x6 => need (O.R 0 55 [agg [sl x1 x2,
 int .i64 x3], agg [sl x4 x5, int .i64 x6]]) fun x7 => asTup (some x7) fun x8 => PI.asBool x8[0]? fun x9 => bif !x9 then some (tup [bool false]) else O.L 0 17 0 [true, true, false, true] []
 m [(0, sl y1 y2), (1, sl y3 y4), (5, int .i64 (i64.wrap (y5 + 1)))] [])) else some (tup [bool true])
theorem E17l1 (y1 y2 y3 y4 y5) {r : V} (h : T17l1 (orcE C) 0 y1 y2 y3 y4 y5 = some r) : loopE C 17 0 [true, true, false, true] [] [(0, sl y1 y2), (1,
 sl y3 y4), (5, int .i64 y5)] [] = some r := ofL (j := 0) (F := fun s => T17l1 (orc C s.k) s.m y1 y2 y3 y4 y5) (fs0 fun _ _ => by kernel_rfl) (by
  unfold T17l1
  repeat' first | (with_reducible first | exact cC | refine cN cR fun _ => ?_ | refine cT fun _ => ?_ | refine cI fun _ => ?_ | refine cM ?_ | refine cF ?_ ?_ | refine cB fun _ => ?_ | refine cL fun _ _ => ?_ | refine cN cC fun _ => ?_ | exact cR) | exact cD0 gM) h
def T57 (O : Orc) (y1 y2 y3 : Int) (y4 : Nat) (y5 : List V) (y6 : Nat) (y7 : List V) (y8 : Nat) (y9 : List V) : Option V := need (O.W 0 59 [0] [ref 0,
 int .i64 y3] [Ob.row 5 y4 y5 false]) fun x1 => asTup (some x1) fun x2 => PI.asInt .i64 x2[0]? fun x3 => asOsl x2[1]? fun x4 x5 => need (O.W 0 59 [0] [ref 0, int .i64 x3] [Ob.row 5 y6 y7 false])
 fun x6 => asTup (some x6) fun x7 => PI.asInt .i64 x7[0]? fun x8 => asOsl x7[1]? fun x9 x10 => need (O.W 0 59 [0] [ref 0, int .i64 x8] [Ob.row 5 y8 y9 false]) fun x11 => asTup (some x11) fun x12 =>
 PI.asInt .i64 x12[0]? fun x13 => asOsl x12[1]? fun x14 x15 => must (false || x5.all flatV) (must (false || x10.all flatV) (must (false || x15.all flatV) (some (tup [int .i64 x13, osl x4 x5,
 osl x9 x10, osl x14 x15]))))
theorem E57 (y1 y2 y3 y4 y5 y6 y7 y8 y9) {r : V} (h : T57 (orcE C) y1 y2 y3 y4 y5 y6 y7 y8 y9 = some r) : runWE C
 57 [0, 1, 2] [agg [int .i64 y1, int .i64 y2, ref 0, ref 1, ref 2], int .i64 y3] [Ob.row 5 y4 y5 false, Ob.row 5 y6 y7 false, Ob.row 5 y8 y9 false] = some r := ofW (j := 1) (F := fun s =>
 T57 (orc C s.k) y1 y2 y3 y4 y5 y6 y7 y8 y9) (fun _ => by kernel_rfl) (by
  unfold T57
  repeat' first | (with_reducible first | exact cC | refine cN cQ fun _ => ?_ | refine cT fun _ => ?_ | refine cI fun _ => ?_ | refine cM ?_ | refine cO fun _ _ => ?_ | refine cN cC fun _ => ?_ | exact cQ)) h
def T58 (O : Orc) (k : Nat) (y1 : Int) (y2 : Nat) (y3 : List V) : Option V := O.X 0 58 [0] [Ob.nrow [] 22 0 []] 0 [true, false, true] [] k [(0, ref 0), (1, int .i64 y1), (5,
 int .i64 0)] [Ob.nrow [] 22 y2 y3]
theorem E58 (y1 y2 y3) {r : V} (h : T58 (orcE C) 0 y1 y2 y3 = some r) : runWE C 58 [0] [ref 0, int .i64 y1] [Ob.nrow [] 22 y2 y3] = some r := ofW (j := 1) (F := fun s
 => T58 (orc C s.k) s.k y1 y2 y3) (fun _ => by kernel_rfl) (by
  unfold T58
  repeat' first | with_reducible exact cC | exact cX0 gK) h
def T60 (O : Orc) (k : Nat) (y1 : Int) (y2 : Nat) (y3 : List V) : Option V := O.X 0 60 [0] [Ob.nrow [] 110 0 []] 0 [true, false, true] [] k [(0, ref 0), (1, int .i64 y1), (5,
 int .i64 0)] [Ob.nrow [] 110 y2 y3]
theorem E60 (y1 y2 y3) {r : V} (h : T60 (orcE C) 0 y1 y2 y3 = some r) : runWE C 60 [0] [ref 0, int .i64 y1] [Ob.nrow [] 110 y2 y3] = some r := ofW (j := 1) (F := fun
 s => T60 (orc C s.k) s.k y1 y2 y3) (fun _ => by kernel_rfl) (by
  unfold T60
  repeat' first | with_reducible exact cC | exact cX0 gK) h
def T20l1 (O : Orc) (m : Nat) (y1 y2 : Int) (y3 : Nat) (y4 : List V) : Option V := bif decide (y2 < (↑y3 : Int)) then must (inB y2 y3) (asOwn false 5 1 y4[y2.toNat * 2 +
 0]? fun x1 x2 => need (O.W 0 59 [0] [ref 0, int .i64 y1] [Ob.row 5 x1 x2 false]) fun x3 => asTup (some x3) fun x4 => PI.asInt .i64 x4[0]? fun x5 => asOsl x4[1]? fun x6 x7 => must (x7.all flatV)
 (must (inB y2 y3) (must ([int .i64 x5].length.beq 1 && (y2.toNat * 2 + 1 + [int .i64 x5].length).ble (y4.set (y2.toNat * 2 + 0) (own false 5 1 x6 x7)).length) (O.X 0 20 [0] [Ob.nrow [] 78 0 []]
 0 [true, false, true] [] m [(0, ref 0), (1, int .i64 (i64.wrap (x5 + 1))), (5, int .i64 (i64.wrap (y2 + 1)))] [Ob.nrow [] 78 y3 (splice (y4.set (y2.toNat * 2 + 0) (own false 5
 1 x6 x7)) (y2.toNat * 2 + 1) [int .i64 x5])])))) else some (tup [int .i64 y1, osl y3 y4])
theorem E20l1 (y1 y2 y3 y4) {r : V} (h : T20l1 (orcE C) 0 y1 y2 y3 y4 = some r) : loopWE C 20 [0] [Ob.nrow [] 78 0 []] 0 [true, false, true] [] [(0, ref 0), (1,
 int .i64 y1), (5, int .i64 y2)] [Ob.nrow [] 78 y3 y4] = some r := ofX (j := 0) (F := fun s => T20l1 (orc C s.k) s.m y1 y2 y3 y4) (fs0 fun _ _ => by kernel_rfl) (by
  unfold T20l1
  repeat' first | (with_reducible first | exact cC | refine cN cQ fun _ => ?_ | refine cT fun _ => ?_ | refine cI fun _ => ?_ | refine cM ?_ | refine cF ?_ ?_ | refine cO fun _ _ => ?_ | refine cP fun _ _ => ?_ | refine cN cC fun _ => ?_ | exact cQ) | exact cX0 gM) h
def T61 (O : Orc) (y1 y2 : Int) (y3 : Nat) (y4 : List V) (y5 : Nat) (y6 : List V) (y7 : Nat) (y8 : List V) (y9 : Nat) (y10 : List V) (y11 : Int) (y12 : Bool) (y13 : Nat) (y14 : List V) (y15 y16 : Int) : Option V := need (O.R 0 106 [agg [int .i64 y1, int .i64 y2, sl y3 y4, sl y5 y6, sl y7 y8], int .i64 y16]) fun x1 => asTup (some x1)
 fun x2 => PI.asInt .i64 x2[0]? fun x3 => bif decide (x3 < 0) then some (tup [int .i64 (-1)]) else need (O.R 0 107 [sl y9 y10, int .i64 x3]) fun x4 => asTup (some x4) fun x5 => PI.asInt .i64
 x5[0]? fun x6 => bif decide (x6 < 0) then some (tup [int .i64 (-1)]) else need (O.R 0 108 [sl y13 y14, int .i64 x6]) fun x7 => asTup (some x7) fun x8 => PI.asInt .i64 x8[0]? fun x9 => bif
 decide (x9 < 0) then some (tup [int .i64 (-1)]) else some (tup [int .i64 x9])
theorem E61 (y1 y2 y3 y4 y5 y6 y7 y8 y9 y10 y11 y12 y13 y14 y15 y16) {r : V} (h : T61 (orcE C) y1 y2 y3 y4 y5 y6 y7 y8 y9 y10 y11 y12 y13 y14 y15 y16 = some r) : runE C 61 [agg [int .i64 y1, int .i64 y2, sl y3 y4, sl y5 y6, sl y7 y8,
 sl y9 y10, int .i64 y11, bool y12, sl y13 y14, int .i64 y15], int .i64 y16] = some r := ofR (j := 1) (F := fun s => T61 (orc C s.k) y1 y2 y3 y4 y5 y6 y7 y8 y9 y10 y11 y12 y13
 y14 y15 y16) (fun _ => by kernel_rfl) (by
  unfold T61
  repeat' first | (with_reducible first | exact cC | refine cN cR fun _ => ?_ | refine cT fun _ => ?_ | refine cI fun _ => ?_ | refine cF ?_ ?_ | refine cN cC fun _ => ?_ | exact cR)) h
def T69 (O : Orc) (y1 : Nat) (y2 : List V) (y3 : Int) : Option V := bif decide (i64.wrap (y3 - (↑y1 : Int)) < 0) then some (tup [int .i64 (-1)]) else some
 (tup [int .i64 (i64.wrap (y3 - (↑y1 : Int)))])
theorem E69 (y1 y2 y3) {r : V} (h : T69 (orcE C) y1 y2 y3 = some r) : runE C 69 [sl y1 y2, int .i64 y3] = some r := ofR (j := 1) (F := fun s => T69 (orc C s.k) y1 y2 y3) (fun _ => by kernel_rfl) (by
  unfold T69
  repeat' first | (with_reducible first | exact cC | refine cF ?_ ?_)) h
def T31l1 (O : Orc) (m : Nat) (y1 : Nat) (y2 : List V) (y3 y4 : Int) : Option V := bif decide (y4 < (↑y1 : Int)) then must (inB y4 y1) (must (decide (y4.toNat * 1 <
 y2.length)) (asSl y2[y4.toNat * 1]? fun x1 x2 => need (O.R 0 69 [sl x1 x2, int .i64 y3]) fun x3 => asTup (some x3) fun x4 => PI.asInt .i64 x4[0]? fun x5 => bif decide (x5 < 0) then some (tup
 [int .i64 (-1)]) else O.L 0 31 0 [true, true, true, false, true] [] m [(0, sl y1 y2), (1, int .i64 x5), (5, int .i64 (i64.wrap (y4 + 1)))] [])) else some (tup [int .i64 y3])
theorem E31l1 (y1 y2 y3 y4) {r : V} (h : T31l1 (orcE C) 0 y1 y2 y3 y4 = some r) : loopE C 31 0 [true, true, true, false, true] [] [(0, sl y1 y2), (1, int .i64
 y3), (5, int .i64 y4)] [] = some r := ofL (j := 0) (F := fun s => T31l1 (orc C s.k) s.m y1 y2 y3 y4) (fs0 fun _ _ => by kernel_rfl) (by
  unfold T31l1
  repeat' first | (with_reducible first | exact cC | refine cN cR fun _ => ?_ | refine cT fun _ => ?_ | refine cI fun _ => ?_ | refine cM ?_ | refine cF ?_ ?_ | refine cL fun _ _ => ?_ | refine cN cC fun _ => ?_ | exact cR) | exact cD0 gM) h
def T33l1 (O : Orc) (m : Nat) (y1 : Nat) (y2 : List V) (y3 y4 : Int) : Option V := bif decide (y4 < (↑y1 : Int)) then must (inB y4 y1) (PI.asInt .i64 y2[y4.toNat * 6]? fun
 x1 => PI.asInt .i64 y2[y4.toNat * 6 + 1]? fun x2 => asSl y2[y4.toNat * 6 + 1 + 1]? fun x3 x4 => PI.asInt .i64 y2[y4.toNat * 6 + 1 + 1 + 1]? fun x5 => PI.asInt .i64 y2[y4.toNat * 6 + 1 + 1 + 1 + 1]?
 fun x6 => asSl y2[y4.toNat * 6 + 1 + 1 + 1 + 1 + 1]? fun x7 x8 => need (O.R 0 70 [agg [int .i64 x1, int .i64 x2, sl x3 x4, int .i64 x5, int .i64 x6, sl x7 x8], int .i64 y3]) fun x9 =>
 asTup (some x9) fun x10 => PI.asInt .i64 x10[0]? fun x11 => bif decide (x11 < 0) then some (tup [int .i64 (-1)]) else O.L 0 33 0 [true, true, true, false, true] [] m [(0, sl y1 y2), (1, int
 .i64 x11), (5, int .i64 (i64.wrap (y4 + 1)))] []) else some (tup [int .i64 y3])
theorem E33l1 (y1 y2 y3 y4) {r : V} (h : T33l1 (orcE C) 0 y1 y2 y3 y4 = some r) : loopE C 33 0 [true, true, true, false, true] [] [(0, sl y1 y2), (1, int .i64
 y3), (5, int .i64 y4)] [] = some r := ofL (j := 0) (F := fun s => T33l1 (orc C s.k) s.m y1 y2 y3 y4) (fs0 fun _ _ => by kernel_rfl) (by
  unfold T33l1
  repeat' first | (with_reducible first | exact cC | refine cN cR fun _ => ?_ | refine cT fun _ => ?_ | refine cI fun _ => ?_ | refine cM ?_ | refine cF ?_ ?_ | refine cL fun _ _ => ?_ | refine cN cC fun _ => ?_ | exact cR) | exact cD0 gM) h
def T32 (O : Orc) (y1 : Nat) (y2 : List V) (y3 y4 : Int) : Option V := need (O.R 0 69 [sl y1 y2, int .i64 y4]) fun x1 => asTup (some x1) fun x2 => PI.asInt
 .i64 x2[0]? fun x3 => bif decide (x3 < 0) then some (tup [int .i64 (-1)]) else some (tup [int .i64 x3])
theorem E32 (y1 y2 y3 y4) {r : V} (h : T32 (orcE C) y1 y2 y3 y4 = some r) : runE C 32 [agg [sl y1 y2, int .i64 y3], int .i64 y4] = some r := ofR (j :=
 1) (F := fun s => T32 (orc C s.k) y1 y2 y3 y4) (fun _ => by kernel_rfl) (by
  unfold T32
  repeat' first | (with_reducible first | exact cC | refine cN cR fun _ => ?_ | refine cT fun _ => ?_ | refine cI fun _ => ?_ | refine cF ?_ ?_ | refine cN cC fun _ => ?_ | exact cR)) h
def T86 (O : Orc) (k : Nat) (y1 : Nat) (y2 : List V) : Option V := must (decide ((↑y1 : Int) = (↑y1 : Int)) && decide (0 ≤ (↑y1 : Int)) && decide ((↑y1 : Int) ≤ 140737488355328)
 && decide ((↑y1 : Int) * 1 ≤ 140737488355328)) (O.L 0 86 0 [true, true, false, true] [] k [(0, sl y1 y2), (3, ref 0), (4, int .i64 0)] [Ob.row 5 (↑y1 : Int).toNat (reps (↑y1 : Int).toNat [int
 .u8 0]) false])
theorem E86 (y1 y2) {r : V} (h : T86 (orcE C) 0 y1 y2 = some r) : runE C 86 [sl y1 y2] = some r := ofR (j := 1) (F := fun s => T86 (orc C s.k) s.k y1 y2) (fun _ => by
 kernel_rfl) (by
  unfold T86
  repeat' first | (with_reducible first | exact cC | refine cM ?_) | exact cD0 gK) h
def T43l1 (O : Orc) (m : Nat) (y1 : Nat) (y2 : List V) (y3 : Int) (y4 : Nat) (y5 : List V) : Option V := bif decide (y3 < (↑y1 : Int)) then must (inB y3 y1) (must (decide
 (y3.toNat * 1 < y2.length)) (asSl y2[y3.toNat * 1]? fun x1 x2 => need (O.R 0 86 [sl x1 x2]) fun x3 => asTup (some x3) fun x4 => asOsl x4[0]? fun x5 x6 => must (inB y3 y4) (must (x6.all flatV) (must
 ([own false 5 1 x5 x6].length.beq 1 && (y3.toNat * 1 + [own false 5 1 x5 x6].length).ble y5.length) (O.L 0 43 0 [true, true, false, true] [] m [(0, sl y1 y2), (3, ref 0), (4, int .i64
 (i64.wrap (y3 + 1)))] [Ob.nrow [] 22 y4 (splice y5 (y3.toNat * 1) [own false 5 1 x5 x6])]))))) else some (tup [osl y4 y5])
theorem E43l1 (y1 y2 y3 y4 y5) {r : V} (h : T43l1 (orcE C) 0 y1 y2 y3 y4 y5 = some r) : loopE C 43 0 [true, true, false, true] [] [(0, sl y1 y2), (3,
 ref 0), (4, int .i64 y3)] [Ob.nrow [] 22 y4 y5] = some r := ofL (j := 0) (F := fun s => T43l1 (orc C s.k) s.m y1 y2 y3 y4 y5) (fs0 fun _ _ => by kernel_rfl) (by
  unfold T43l1
  repeat' first | (with_reducible first | exact cC | refine cN cR fun _ => ?_ | refine cT fun _ => ?_ | refine cM ?_ | refine cF ?_ ?_ | refine cL fun _ _ => ?_ | refine cO fun _ _ => ?_ | refine cN cC fun _ => ?_ | exact cR) | exact cD0 gM) h
def T45l1 (O : Orc) (m : Nat) (y1 : Nat) (y2 : List V) (y3 : Int) (y4 : Nat) (y5 : List V) : Option V := bif decide (y3 < (↑y1 : Int)) then must (inB y3 y1) (PI.asInt .i64
 y2[y3.toNat * 6]? fun x1 => PI.asInt .i64 y2[y3.toNat * 6 + 1]? fun x2 => asSl y2[y3.toNat * 6 + 1 + 1]? fun x3 x4 => PI.asInt .i64 y2[y3.toNat * 6 + 1 + 1 + 1]? fun x5 => PI.asInt .i64 y2[y3.toNat *
 6 + 1 + 1 + 1 + 1]? fun x6 => asSl y2[y3.toNat * 6 + 1 + 1 + 1 + 1 + 1]? fun x7 x8 => need (O.R 0 87 [agg [int .i64 x1, int .i64 x2, sl x3 x4, int .i64 x5, int .i64 x6, sl x7 x8]]) fun
 x9 => asTup (some x9) fun x10 => PI.asInt .i64 x10[0]? fun x11 => PI.asInt .i64 x10[1]? fun x12 => asOsl x10[2]? fun x13 x14 => PI.asInt .i64 x10[3]? fun x15 => PI.asInt .i64 x10[4]? fun x16 => asOsl
 x10[5]? fun x17 x18 => must (inB y3 y4) (must ([int .i64 x11, int .i64 x12, own true 22 1 x13 x14, int .i64 x15, int .i64 x16, own true 22 1 x17 x18].length.beq 6 && (y3.toNat * 6 + [int
 .i64 x11, int .i64 x12, own true 22 1 x13 x14, int .i64 x15, int .i64 x16, own true 22 1 x17 x18].length).ble y5.length) (O.L 0 45 0 [true, true, false, true] [] m [(0, sl y1 y2), (3,
 ref 0), (4, int .i64 (i64.wrap (y3 + 1)))] [Ob.nrow [] 110 y4 (splice y5 (y3.toNat * 6) [int .i64 x11, int .i64 x12, own true 22 1 x13 x14, int .i64 x15, int .i64 x16, own true
 22 1 x17 x18])]))) else some (tup [osl y4 y5])
theorem E45l1 (y1 y2 y3 y4 y5) {r : V} (h : T45l1 (orcE C) 0 y1 y2 y3 y4 y5 = some r) : loopE C 45 0 [true, true, false, true] [] [(0, sl y1 y2), (3,
 ref 0), (4, int .i64 y3)] [Ob.nrow [] 110 y4 y5] = some r := ofL (j := 0) (F := fun s => T45l1 (orc C s.k) s.m y1 y2 y3 y4 y5) (fs0 fun _ _ => by kernel_rfl) (by
  unfold T45l1
  repeat' first | (with_reducible first | exact cC | refine cN cR fun _ => ?_ | refine cT fun _ => ?_ | refine cI fun _ => ?_ | refine cM ?_ | refine cF ?_ ?_ | refine cL fun _ _ => ?_ | refine cO fun _ _ => ?_ | refine cN cC fun _ => ?_ | exact cR) | exact cD0 gM) h
def T44 (O : Orc) (y1 : Nat) (y2 : List V) (y3 : Int) : Option V := need (O.R 0 86 [sl y1 y2]) fun x1 => asTup (some x1) fun x2 => asOsl x2[0]? fun x3 x4 => must
 (false || x4.all flatV) (some (tup [osl x3 x4, int .i64 y3]))
theorem E44 (y1 y2 y3) {r : V} (h : T44 (orcE C) y1 y2 y3 = some r) : runE C 44 [agg [sl y1 y2, int .i64 y3]] = some r := ofR (j := 1) (F := fun s => T44 (orc C
 s.k) y1 y2 y3) (fun _ => by kernel_rfl) (by
  unfold T44
  repeat' first | (with_reducible first | exact cC | refine cN cR fun _ => ?_ | refine cT fun _ => ?_ | refine cM ?_ | refine cO fun _ _ => ?_ | refine cN cC fun _ => ?_ | exact cR)) h
def T34 (O : Orc) (k : Nat) (y1 y2 : Int) (y3 : Nat) (y4 : List V) (y5 : Nat) (y6 : List V) (y7 : Nat) (y8 : List V) (y9 : Nat) (y10 : List V) (y11 : Int) (y12 : Bool) (y13 : Nat) (y14 : List V) (y15 : Int) : Option V := need (O.R 0 71 [agg [int .i64 y1, int .i64 y2, sl y3 y4, sl y5 y6, sl y7 y8]]) fun x1 => asTup (some x1) fun x2 => PI.asInt .i64 x2[0]?
 fun x3 => bif x3 != 0 then some (tup [int .i64 x3]) else need (O.R 0 72 [sl y9 y10]) fun x4 => asTup (some x4) fun x5 => PI.asInt .i64 x5[0]? fun x6 => bif x6 != 0 then some (tup [int .i64
 x6]) else need (O.R 0 73 [sl y9 y10]) fun x7 => asTup (some x7) fun x8 => asSl x8[0]? fun x9 x10 => need (O.R 0 37 [sl y7 y8, sl x9 x10]) fun x11 => asTup (some x11) fun x12 => PI.asBool x12[0]?
 fun x13 => bif !x13 then some (tup [int .i64 1]) else need (O.R 0 74 [int .i64 y11, int .i64 1, int .i64 1099511627776]) fun x14 => asTup (some x14) fun x15 => PI.asBool x15[0]? fun x16 =>
 bif !x16 then some (tup [int .i64 3]) else bif decide ((↑y13 : Int) > 24) then some (tup [int .i64 2]) else bif (↑y13 : Int) == 0 then some (tup [int .i64 1]) else bif decide (y15 < 1)
 then some (tup [int .i64 1]) else bif decide (y15 > y1) then some (tup [int .i64 1]) else bif i64.wrap (i64.wrap (y15 + (↑y13 : Int)) - 1) != y1 then some (tup [int .i64
 1]) else O.L 0 34 0 [true, true, true, true, true, true, true, true, false, true] [] k [(1, ptr 0 0), (5, int .i64 (↑y13 : Int)), (6, int .i64 0)] [Ob.box 38 [int .i64 y1, int .i64 y2, sl
 y3 y4, sl y5 y6, sl y7 y8, sl y9 y10, int .i64 y11, bool y12, sl y13 y14, int .i64 y15] false]
theorem E34 (y1 y2 y3 y4 y5 y6 y7 y8 y9 y10 y11 y12 y13 y14 y15) {r
 : V} (h : T34 (orcE C) 0 y1 y2 y3 y4 y5 y6 y7 y8 y9 y10 y11 y12 y13 y14 y15 = some r) : runE C 34 [agg [int .i64 y1, int .i64 y2, sl y3 y4, sl y5 y6, sl y7 y8, sl y9 y10, int
 .i64 y11, bool y12, sl y13 y14, int .i64 y15]] = some r := ofR (j := 1) (F := fun s => T34 (orc C s.k) s.k y1 y2 y3 y4 y5 y6 y7 y8 y9 y10 y11 y12 y13 y14 y15) (fun _ => by kernel_rfl) (by
  unfold T34
  repeat' first | (with_reducible first | exact cC | refine cN cR fun _ => ?_ | refine cT fun _ => ?_ | refine cI fun _ => ?_ | refine cF ?_ ?_ | refine cB fun _ => ?_ | refine cL fun _ _ => ?_ | refine cN cC fun _ => ?_ | exact cR) | exact cD0 gK) h
def T35 (O : Orc) (y1 y2 : Int) (y3 : Nat) (y4 : List V) (y5 : Nat) (y6 : List V) (y7 : Nat) (y8 : List V) (y9 : Nat) (y10 : List V) (y11 : Int) (y12 : Bool) (y13 : Nat) (y14 : List V) (y15 y16 : Int) : Option V := bif decide (y16 < 0) then some (tup [bool true]) else some (tup [bool (decide (y16 > i64.wrap (y2 + y11)))])
theorem E35 (y1 y2 y3 y4 y5 y6 y7 y8 y9 y10 y11 y12 y13 y14 y15 y16) {r : V} (h : T35 (orcE C) y1 y2 y3 y4 y5 y6 y7 y8 y9 y10 y11 y12 y13 y14 y15 y16 = some r) : runE C 35 [pin [int .i64 y1, int .i64 y2, sl y3 y4, sl y5 y6, sl y7 y8,
 sl y9 y10, int .i64 y11, bool y12, sl y13 y14, int .i64 y15] 0, int .i64 y16] = some r := ofR (j := 1) (F := fun s => T35 (orc C s.k) y1 y2 y3 y4 y5 y6 y7 y8 y9 y10 y11 y12 y13
 y14 y15 y16) (fun _ => by kernel_rfl) (by
  unfold T35
  repeat' first | (with_reducible first | exact cC | refine cF ?_ ?_)) h
def T36 (O : Orc) (k : Nat) (y1 : Nat) (y2 : List V) (y3 y4 : Int) (y5 : Nat) (y6 : List V) (y7 : Nat) (y8 : List V) (y9 : Nat) (y10 : List V) (y11 : Nat) (y12 : List V) :
 Option V := need (O.R 0 72 [sl y1 y2]) fun x1 => asTup (some x1) fun x2 => PI.asInt .i64 x2[0]? fun x3 => bif x3 != 0 then some (tup [int .i64 x3]) else need (O.R 0 71 [agg [int .i64 y3,
 int .i64 y4, sl y5 y6, sl y7 y8, sl y9 y10]]) fun x4 => asTup (some x4) fun x5 => PI.asInt .i64 x5[0]? fun x6 => bif x6 != 0 then some (tup [int .i64 x6]) else need (O.R 0 73 [sl y1 y2])
 fun x7 => asTup (some x7) fun x8 => asSl x8[0]? fun x9 x10 => need (O.R 0 37 [sl y7 y8, sl x9 x10]) fun x11 => asTup (some x11) fun x12 => PI.asBool x12[0]? fun x13 => bif !x13 then some (tup
 [int .i64 1]) else bif decide ((↑y11 : Int) > 5) then some (tup [int .i64 2]) else need (O.R 0 38 [agg [int .i64 y3, int .i64 y4, sl y5 y6, sl y7 y8, sl y9 y10]]) fun x14 => asTup
 (some x14) fun x15 => asSl x15[0]? fun x16 x17 => O.L 0 36 0 [true, true, true, true, true, true, false, true] [] k [(0, sl y1 y2), (3, ptr 0 0), (7, sl x16 x17), (8, int .i64 0)] [Ob.box 46
 [int .i64 y3, int .i64 y4, sl y5 y6, sl y7 y8, sl y9 y10, sl y11 y12] false]
theorem E36 (y1 y2 y3 y4 y5 y6 y7 y8 y9 y10 y11 y12) {r : V} (h : T36 (orcE C) 0 y1 y2
 y3 y4 y5 y6 y7 y8 y9 y10 y11 y12 = some r) : runE C 36 [sl y1 y2, agg [int .i64 y3, int .i64 y4, sl y5 y6, sl y7 y8, sl y9 y10, sl y11 y12]] = some r := ofR (j := 1) (F := fun s => T36 (orc C s.k) s.k y1 y2 y3 y4 y5 y6 y7 y8 y9 y10 y11 y12) (fun _ => by kernel_rfl) (by
  unfold T36
  repeat' first | (with_reducible first | exact cC | refine cN cR fun _ => ?_ | refine cT fun _ => ?_ | refine cI fun _ => ?_ | refine cF ?_ ?_ | refine cB fun _ => ?_ | refine cL fun _ _ => ?_ | refine cN cC fun _ => ?_ | exact cR) | exact cD0 gK) h
def T39 (O : Orc) (y1 : Nat) (y2 : List V) (y3 y4 : Int) (y5 : Nat) (y6 : List V) (y7 : Nat) (y8 : List V) (y9 : Nat) (y10 : List V) (y11 : Nat) (y12 : List V) :
 Option V := need (O.R 0 36 [sl y1 y2, agg [int .i64 y3, int .i64 y4, sl y5 y6, sl y7 y8, sl y9 y10, sl y11 y12]]) fun x1 => asTup (some x1) fun x2 => PI.asInt .i64 x2[0]? fun x3 => bif
 x3 == 0 then need (O.R 0 80 [sl y1 y2, agg [int .i64 y3, int .i64 y4, sl y5 y6, sl y7 y8, sl y9 y10, sl y11 y12]]) fun x4 => asTup (some x4) fun x5 => PI.asInt .i64 x5[0]? fun x6 =>
 need (O.R 0 81 [sl y1 y2]) fun x7 => asTup (some x7) fun x8 => PI.asInt .i64 x8[0]? fun x9 => some (tup [bool (decide (i64.wrap (3 * x6) > i64.wrap (2 * x9)))]) else some (tup
 [bool false])
theorem E39 (y1 y2 y3 y4 y5 y6 y7 y8 y9 y10 y11 y12) {r : V} (h : T39 (orcE C) y1 y2
 y3 y4 y5 y6 y7 y8 y9 y10 y11 y12 = some r) : runE C 39 [sl y1 y2, agg [int .i64 y3, int .i64 y4, sl y5 y6, sl y7 y8, sl y9 y10, sl y11 y12]] = some r := ofR (j := 1) (F := fun s => T39 (orc C s.k) y1 y2 y3 y4 y5 y6 y7 y8 y9 y10 y11 y12) (fun _ => by kernel_rfl) (by
  unfold T39
  repeat' first | (with_reducible first | exact cC | refine cN cR fun _ => ?_ | refine cT fun _ => ?_ | refine cI fun _ => ?_ | refine cF ?_ ?_ | refine cN cC fun _ => ?_ | exact cR)) h
def T109 (O : Orc) (k : Nat) (y1 y2 : Int) (y3 : Nat) (y4 : List V) (y5 : Nat) (y6 : List V) (y7 : Nat) (y8 : List V) (y9 : Nat) (y10 : List V) (y11 : Int) (y12 : Bool) (y13 : Nat) (y14 : List V) (y15 y16 y17 : Int) (y18 : Nat) (y19 : List V) (y20 : Nat) (y21 : List V) (y22 : Nat) (y23 : List V) (y24 : Nat) (y25 : List V) (y26 : Nat) (y27 : List V) :
 Option V := need (O.R 0 72 [sl y26 y27]) fun x1 => asTup (some x1) fun x2 => PI.asInt .i64 x2[0]? fun x3 => bif x3 != 0 then some (tup [int .i64 x3, int .i64 0, int .i64 0, sl 0 [], sl 0
 [], sl 0 [], sl 0 [], int .i64 0, bool false, sl 0 [], int .i64 0]) else need (O.R 0 73 [sl y26 y27]) fun x4 => asTup (some x4) fun x5 => asSl x5[0]? fun x6 x7 => need (O.R 0 37 [sl
 y22 y23, sl x6 x7]) fun x8 => asTup (some x8) fun x9 => PI.asBool x9[0]? fun x10 => bif !x10 then some (tup [int .i64 1, int .i64 0, int .i64 0, sl 0 [], sl 0 [], sl 0 [], sl 0 [],
 int .i64 0, bool false, sl 0 [], int .i64 0]) else need (O.R 0 41 [agg [int .i64 y1, int .i64 y2, sl y3 y4, sl y5 y6, sl y7 y8, sl y9 y10, int .i64 y11, bool y12, sl y13
 y14, int .i64 y15]]) fun x11 => asTup (some x11) fun x12 => PI.asInt .i64 x12[0]? fun x13 => PI.asInt .i64 x12[1]? fun x14 => asOsl x12[2]? fun x15 x16 => asOsl x12[3]? fun x17 x18 => asOsl x12[4]?
 fun x19 x20 => asOsl x12[5]? fun x21 x22 => PI.asInt .i64 x12[6]? fun x23 => PI.asBool x12[7]? fun x24 => asOsl x12[8]? fun x25 x26 => PI.asInt .i64 x12[9]? fun x27 => bif decide (i64.wrap
 (i64.wrap (y16 - y1) - 1) ≥ 24) then must (decide (y19.length = y18 * 1)) (must (true && (0 + y18).ble 140737488355328 && ((0 + y18) * 1).ble 140737488355328) (O.L 0 109 0 [true, true, true,
 true, true, true, true, false] [] k [(2, sl y26 y27), (4, ptr 0 0), (6, ptr 1 0), (8, ptr 7 0)] [Ob.box 46 [int .i64 y16, int .i64 y17, sl y18 y19, sl y20 y21, sl y22 y23, sl y24
 y25] false, Ob.box 40 [int .i64 0, int .i64 0, int .i64 0, ref 2, ref 3, ref 4, ref 5, int .i64 0, bool false, ref 6, int .i64 0] false, Ob.row 5 0 [] false, Ob.row 5 0 [] false,
 Ob.row 5 0 [] false, Ob.row 78 0 [] false, Ob.nrow [] 22 0 [], Ob.box 38 [int .i64 x13, int .i64 x14, ref 8, ref 9, ref 10, ref 11, int .i64 x23, bool x24, ref 12, int .i64
 (i64.wrap (i64.wrap (y16 - 24) + 1))] false, Ob.row 5 x15 x16 false, Ob.row 5 x17 x18 false, Ob.row 5 x19 x20 false, Ob.row 78 x21 x22 false, Ob.row 22 24 [sl 0 [], sl 0 [], sl 0
 [], sl 0 [], sl 0 [], sl 0 [], sl 0 [], sl 0 [], sl 0 [], sl 0 [], sl 0 [], sl 0 [], sl 0 [], sl 0 [], sl 0 [], sl 0 [], sl 0 [], sl 0 [], sl 0 [], sl 0 [], sl 0
 [], sl 0 [], sl 0 [], sl (0 + y18) y19] false])) else must (decide (0 ≤ i64.wrap (i64.wrap (y16 - y1) - 1)) && decide (i64.wrap (i64.wrap (y16 - y1) - 1) ≤
 140737488355328)) (must (true && decide (x25 + (i64.wrap (i64.wrap (y16 - y1) - 1)).toNat ≤ 140737488355328) && decide ((x25 + (i64.wrap (i64.wrap (y16 - y1) -
 1)).toNat) * 24 ≤ 140737488355328)) (must (decide (y19.length = y18 * 1)) (must (true && (0 + y18).ble 140737488355328 && ((0 + y18) * 1).ble 140737488355328) (must (true && (x25 + (i64.wrap
 (i64.wrap (y16 - y1) - 1)).toNat + 1).ble 140737488355328 && ((x25 + (i64.wrap (i64.wrap (y16 - y1) - 1)).toNat + 1) * 24).ble 140737488355328) (O.L 0 109 0 [true, true, true,
 true, true, true, true, false] [] k [(2, sl y26 y27), (4, ptr 0 0), (6, ptr 1 0), (8, ptr 7 0)] [Ob.box 46 [int .i64 y16, int .i64 y17, sl y18 y19, sl y20 y21, sl y22 y23, sl y24
 y25] false, Ob.box 40 [int .i64 0, int .i64 0, int .i64 0, ref 2, ref 3, ref 4, ref 5, int .i64 0, bool false, ref 6, int .i64 0] false, Ob.row 5 0 [] false, Ob.row 5 0 [] false,
 Ob.row 5 0 [] false, Ob.row 78 0 [] false, Ob.nrow [] 22 0 [], Ob.box 38 [int .i64 x13, int .i64 x14, ref 8, ref 9, ref 10, ref 11, int .i64 x23, bool x24, ref 12, int .i64 x27]
 false, Ob.row 5 x15 x16 false, Ob.row 5 x17 x18 false, Ob.row 5 x19 x20 false, Ob.row 78 x21 x22 false, Ob.row 22 (x25 + (i64.wrap (i64.wrap (y16 - y1) - 1)).toNat + 1) (x26 ++ reps
 (i64.wrap (i64.wrap (y16 - y1) - 1)).toNat [sl 0 []] ++ [sl (0 + y18) y19]) false])))))
theorem E109 (y1 y2 y3 y4 y5 y6 y7 y8 y9 y10 y11 y12 y13 y14 y15 y16 y17 y18 y19 y20 y21 y22 y23 y24 y25 y26 y27) {r : V} (h : T109 (orcE C) 0 y1 y2
 y3 y4 y5 y6 y7 y8 y9 y10 y11 y12 y13 y14 y15 y16 y17 y18 y19 y20 y21 y22 y23 y24 y25 y26 y27 = some r) : runE C 109 [agg [int .i64 y1, int .i64 y2, sl y3 y4, sl y5 y6, sl y7 y8, sl y9
 y10, int .i64 y11, bool y12, sl y13 y14, int .i64 y15], agg [int .i64 y16, int .i64 y17, sl y18 y19, sl y20 y21, sl y22 y23, sl y24 y25], sl y26 y27] = some r := ofR (j := 1)
 (F := fun s => T109 (orc C s.k) s.k y1 y2 y3 y4 y5 y6 y7 y8 y9 y10 y11 y12 y13 y14 y15 y16 y17 y18 y19 y20 y21 y22 y23 y24 y25 y26 y27) (fun _ => by kernel_rfl) (by
  unfold T109
  repeat' first | (with_reducible first | exact cC | refine cN cR fun _ => ?_ | refine cT fun _ => ?_ | refine cI fun _ => ?_ | refine cM ?_ | refine cF ?_ ?_ | refine cB fun _ => ?_ | refine cL fun _ _ => ?_ | refine cO fun _ _ => ?_ | refine cN cC fun _ => ?_ | exact cR) | exact cD0 gK) h
def T46 (O : Orc) (y1 y2 : Int) (y3 : Nat) (y4 : List V) (y5 : Nat) (y6 : List V) (y7 : Nat) (y8 : List V) (y9 : Nat) (y10 : List V) (y11 : Int) (y12 : Bool) (y13 : Nat) (y14 : List V) (y15 : Int) : Option V := need (O.R 0 88 [agg [int .i64 y1, int .i64 y2, sl y3 y4, sl y5 y6, sl y7 y8]]) fun x1 => asTup (some x1) fun x2 => PI.asInt .i64 x2[0]?
 fun x3 => bif x3 != 0 then some (tup [int .i64 x3]) else need (O.R 0 89 [sl y9 y10]) fun x4 => asTup (some x4) fun x5 => PI.asInt .i64 x5[0]? fun x6 => bif x6 != 0 then some (tup [int .i64
 x6]) else need (O.R 0 90 [sl y9 y10]) fun x7 => asTup (some x7) fun x8 => asSl x8[0]? fun x9 x10 => need (O.R 0 49 [sl y7 y8, sl x9 x10]) fun x11 => asTup (some x11) fun x12 => PI.asBool x12[0]?
 fun x13 => bif !x13 then some (tup [int .i64 1]) else need (O.R 0 91 [int .i64 y11, int .i64 1, int .i64 1099511627776]) fun x14 => asTup (some x14) fun x15 => PI.asBool x15[0]? fun x16 =>
 bif !x16 then some (tup [int .i64 3]) else bif decide ((↑y13 : Int) > 24) then some (tup [int .i64 2]) else bif (↑y13 : Int) == 0 then some (tup [int .i64 1]) else bif decide (y15 < 1)
 then some (tup [int .i64 1]) else bif decide (y15 > 1000000) then some (tup [int .i64 1]) else bif i64.wrap (i64.wrap (y15 + (↑y13 : Int)) - 1) != y1 then some (tup [int
 .i64 1]) else must (inB (i64.wrap ((↑y13 : Int) - 1)) y13) (must (decide ((i64.wrap ((↑y13 : Int) - 1)).toNat * 1 < y14.length)) (asSl y14[(i64.wrap ((↑y13 : Int) - 1)).toNat *
 1]? fun x17 x18 => need (O.R 0 49 [sl x17 x18, sl y3 y4]) fun x19 => asTup (some x19) fun x20 => PI.asBool x20[0]? fun x21 => bif !x21 then some (tup [int .i64 1]) else need (O.R 0 92 [sl
 y13 y14, fn 93 []]) fun x22 => asTup (some x22) fun x23 => PI.asBool x23[0]? fun x24 => bif x24 then some (tup [int .i64 1]) else some (tup [int .i64 0])))
theorem E46 (y1 y2 y3 y4 y5 y6 y7 y8 y9 y10 y11 y12 y13 y14 y15) {r
 : V} (h : T46 (orcE C) y1 y2 y3 y4 y5 y6 y7 y8 y9 y10 y11 y12 y13 y14 y15 = some r) : runE C 46 [agg [int .i64 y1, int .i64 y2, sl y3 y4, sl y5 y6, sl y7 y8, sl y9 y10, int
 .i64 y11, bool y12, sl y13 y14, int .i64 y15]] = some r := ofR (j := 1) (F := fun s => T46 (orc C s.k) y1 y2 y3 y4 y5 y6 y7 y8 y9 y10 y11 y12 y13 y14 y15) (fun _ => by kernel_rfl) (by
  unfold T46
  repeat' first | (with_reducible first | exact cC | refine cN cR fun _ => ?_ | refine cT fun _ => ?_ | refine cI fun _ => ?_ | refine cM ?_ | refine cF ?_ ?_ | refine cB fun _ => ?_ | refine cL fun _ _ => ?_ | refine cN cC fun _ => ?_ | exact cR)) h
def T47 (O : Orc) (y1 y2 : Int) (y3 : Nat) (y4 : List V) (y5 : Nat) (y6 : List V) (y7 : Nat) (y8 : List V) (y9 : Nat) (y10 : List V) (y11 : Int) (y12 : Bool) (y13 : Nat) (y14 : List V) (y15 y16 : Int) : Option V := need (O.R 0 91 [int .i64 y16, int .i64 0, int .i64 (i64.wrap (y2 + y11))]) fun x1 => asTup (some x1) fun x2 => PI.asBool
 x2[0]? fun x3 => some (tup [bool !x3])
theorem E47 (y1 y2 y3 y4 y5 y6 y7 y8 y9 y10 y11 y12 y13 y14 y15 y16) {r : V} (h : T47 (orcE C) y1 y2 y3 y4 y5 y6 y7 y8 y9 y10 y11 y12 y13 y14 y15 y16 = some r) : runE C 47 [agg [int .i64 y1, int .i64 y2, sl y3 y4, sl y5 y6, sl y7 y8,
 sl y9 y10, int .i64 y11, bool y12, sl y13 y14, int .i64 y15], int .i64 y16] = some r := ofR (j := 1) (F := fun s => T47 (orc C s.k) y1 y2 y3 y4 y5 y6 y7 y8 y9 y10 y11 y12 y13
 y14 y15 y16) (fun _ => by kernel_rfl) (by
  unfold T47
  repeat' first | (with_reducible first | exact cC | refine cN cR fun _ => ?_ | refine cT fun _ => ?_ | refine cB fun _ => ?_ | refine cN cC fun _ => ?_ | exact cR)) h
def T89 (O : Orc) (k : Nat) (y1 : Nat) (y2 : List V) : Option V := bif (↑y1 : Int) == 0 then some (tup [int .i64 4]) else bif decide ((↑y1 : Int) > 5) then some (tup [int
 .i64 2]) else O.L 0 89 1 [true, true, false, true] [] k [(0, sl y1 y2), (13, sl y1 y2), (14, int .i64 (↑y1 : Int)), (15, int .i64 0)] []
theorem E89 (y1 y2) {r : V} (h : T89 (orcE C) 0 y1 y2 = some r) : runE C 89 [sl y1 y2] = some r := ofR (j := 1) (F := fun s => T89 (orc C s.k) s.k y1 y2) (fun _ => by
 kernel_rfl) (by
  unfold T89
  repeat' first | (with_reducible first | exact cC | refine cF ?_ ?_) | exact cD0 gK) h
def T88 (O : Orc) (y1 y2 : Int) (y3 : Nat) (y4 : List V) (y5 : Nat) (y6 : List V) (y7 : Nat) (y8 : List V) : Option V := need (O.R 0 119 [sl 3 [sl y3 y4,
 sl y5 y6, sl y7 y8]]) fun x1 => asTup (some x1) fun x2 => PI.asBool x2[0]? fun x3 => bif !x3 then some (tup [int .i64 1]) else need (O.R 0 91 [int .i64 y1, int .i64 1, int .i64 1000000])
 fun x4 => asTup (some x4) fun x5 => PI.asBool x5[0]? fun x6 => bif !x6 then some (tup [int .i64 3]) else need (O.R 0 91 [int .i64 y2, int .i64 0, int .i64 1099511627776]) fun x7 => asTup
 (some x7) fun x8 => PI.asBool x8[0]? fun x9 => bif !x9 then some (tup [int .i64 3]) else some (tup [int .i64 0])
theorem E88 (y1 y2 y3 y4 y5 y6 y7 y8) {r : V} (h : T88 (orcE C) y1 y2 y3 y4 y5 y6 y7 y8 = some r) : runE C 88 [agg
 [int .i64 y1, int .i64 y2, sl y3 y4, sl y5 y6, sl y7 y8]] = some r := ofR (j := 1) (F := fun s => T88 (orc C s.k) y1 y2 y3 y4 y5 y6 y7 y8) (fun _ => by kernel_rfl) (by
  unfold T88
  repeat' first | (with_reducible first | exact cC | refine cN cR fun _ => ?_ | refine cT fun _ => ?_ | refine cF ?_ ?_ | refine cB fun _ => ?_ | refine cN cC fun _ => ?_ | exact cR)) h
def T90 (O : Orc) (k : Nat) (y1 : Nat) (y2 : List V) : Option V := O.L 0 90 0 [true, true, false, true] [] k [(3, ref 0), (7, sl y1 y2), (8, int .i64 (↑y1 : Int)), (9, int
 .i64 0)] [Ob.row 22 0 [] false]
theorem E90 (y1 y2) {r : V} (h : T90 (orcE C) 0 y1 y2 = some r) : runE C 90 [sl y1 y2] = some r := ofR (j := 1) (F := fun s => T90 (orc C s.k) s.k y1 y2) (fun _ => by
 kernel_rfl) (by
  unfold T90
  repeat' first | with_reducible exact cC | exact cD0 gK) h
def T49 (O : Orc) (y1 : Nat) (y2 : List V) (y3 : Nat) (y4 : List V) : Option V := must (y2.length.beq y1 && y2.all isU8) (must (y4.length.beq y3 && y4.all isU8) (some
 (tup [bool (strEq (packB y2) (packB y4))])))
theorem E49 (y1 y2 y3 y4) {r : V} (h : T49 (orcE C) y1 y2 y3 y4 = some r) : runE C 49 [sl y1 y2, sl y3 y4] = some r := ofR (j := 1) (F := fun s => T49 (orc C s.k) y1 y2 y3 y4) (fun _ => by kernel_rfl) (by
  unfold T49
  repeat' first | (with_reducible first | exact cC | refine cM ?_)) h
def T50 (O : Orc) (y1 y2 : Int) (y3 : Nat) (y4 : List V) (y5 : Nat) (y6 : List V) (y7 : Nat) (y8 : List V) : Option V := need (O.R 0 98 [int .i64 y1]) fun x1
 => asTup (some x1) fun x2 => asSl x2[0]? fun x3 x4 => need (O.R 0 98 [int .i64 y2]) fun x5 => asTup (some x5) fun x6 => asSl x6[0]? fun x7 x8 => need (O.R 0 97 [sl 5 [sl x3 x4, sl x7 x8, sl
 y3 y4, sl y5 y6, sl y7 y8]]) fun x9 => asTup (some x9) fun x10 => asSl x10[0]? fun x11 x12 => need (O.R 0 96 [str { data := #[(98 : UInt8), (102 : UInt8), (116 : UInt8)] }, sl 1 [sl x11
 x12]]) fun x13 => asTup (some x13) fun x14 => asOsl x14[0]? fun x15 x16 => some (tup [sl x15 x16])
theorem E50 (y1 y2 y3 y4 y5 y6 y7 y8) {r : V} (h : T50 (orcE C) y1 y2 y3 y4 y5 y6 y7 y8 = some r) : runE C 50 [agg
 [int .i64 y1, int .i64 y2, sl y3 y4, sl y5 y6, sl y7 y8]] = some r := ofR (j := 1) (F := fun s => T50 (orc C s.k) y1 y2 y3 y4 y5 y6 y7 y8) (fun _ => by kernel_rfl) (by
  unfold T50
  repeat' first | (with_reducible first | exact cC | refine cN cR fun _ => ?_ | refine cT fun _ => ?_ | refine cL fun _ _ => ?_ | refine cO fun _ _ => ?_ | refine cN cC fun _ => ?_ | exact cR)) h
def T48l1 (O : Orc) (m : Nat) (y1 : Nat) (y2 : List V) (y3 : Int) (y4 : Nat) (y5 : List V) (y6 : Nat) (y7 : List V) (y8 y9 : Int) : Option V := bif decide (y9 < y8) then
 must (inB y9 y6) (PI.asInt .i64 y7[y9.toNat * 6]? fun x1 => PI.asInt .i64 y7[y9.toNat * 6 + 1]? fun x2 => asSl y7[y9.toNat * 6 + 1 + 1]? fun x3 x4 => PI.asInt .i64 y7[y9.toNat * 6 + 1 + 1 + 1]? fun x5
 => PI.asInt .i64 y7[y9.toNat * 6 + 1 + 1 + 1 + 1]? fun x6 => asSl y7[y9.toNat * 6 + 1 + 1 + 1 + 1 + 1]? fun x7 x8 => need (O.R 0 91 [int .i64 x1, int .i64 (i64.wrap (y3 + 1)), int .i64
 (i64.wrap ((↑y1 : Int) - 1))]) fun x9 => asTup (some x9) fun x10 => PI.asBool x10[0]? fun x11 => bif !x11 then some (tup [int .i64 3]) else must (inB x1 y1) (must (decide (x1.toNat * 2 + 0
 < y2.length)) (asSl y2[x1.toNat * 2 + 0]? fun x12 x13 => need (O.R 0 95 [sl x12 x13, sl y4 y5, agg [int .i64 x2, sl x3 x4, int .i64 x5, int .i64 x6, sl x7 x8]]) fun x14 => asTup (some
 x14) fun x15 => PI.asBool x15[0]? fun x16 => bif !x16 then some (tup [int .i64 6]) else O.L 0 48 1 [true, true, true, true, true, false, true] [] m [(0, sl y1 y2), (7, int .i64 x1), (8, sl
 y4 y5), (39, sl y6 y7), (40, int .i64 y8), (41, int .i64 (i64.wrap (y9 + 1)))] []))) else some (tup [int .i64 0])
theorem E48l1 (y1 y2 y3 y4 y5 y6 y7 y8 y9) {r : V} (h : T48l1 (orcE C) 0 y1 y2 y3 y4 y5 y6 y7 y8 y9 = some r) :
 loopE C 48 1 [true, true, true, true, true, false, true] [] [(0, sl y1 y2), (7, int .i64 y3), (8, sl y4 y5), (39, sl y6 y7), (40, int .i64 y8), (41, int .i64 y9)] [] = some r := ofL (j :=
 0) (F := fun s => T48l1 (orc C s.k) s.m y1 y2 y3 y4 y5 y6 y7 y8 y9) (fs0 fun _ _ => by kernel_rfl) (by
  unfold T48l1
  repeat' first | (with_reducible first | exact cC | refine cN cR fun _ => ?_ | refine cT fun _ => ?_ | refine cI fun _ => ?_ | refine cM ?_ | refine cF ?_ ?_ | refine cB fun _ => ?_ | refine cL fun _ _ => ?_ | refine cN cC fun _ => ?_ | exact cR) | exact cD0 gM) h
def T110 (O : Orc) (k : Nat) (y1 : Nat) (y2 : List V) (y3 y4 : Int) (y5 : Nat) (y6 : List V) (y7 : Nat) (y8 : List V) (y9 : Nat) (y10 : List V) (y11 : Nat) (y12 : List V) : Option V := O.L 0 110 0 [true, true, false, true] [] k [(0, sl y1 y2), (5, int .i64 0), (9, sl y11 y12), (10, int .i64 (↑y11 : Int)), (11, int .i64 0)] []
theorem E110 (y1 y2 y3 y4 y5 y6 y7 y8 y9 y10 y11 y12) {r : V} (h : T110 (orcE C) 0 y1
 y2 y3 y4 y5 y6 y7 y8 y9 y10 y11 y12 = some r) : runE C 110 [sl y1 y2, agg [int .i64 y3, int .i64 y4, sl y5 y6, sl y7 y8, sl y9 y10, sl y11 y12]] = some r := ofR (j := 1) (F := fun s =>
 T110 (orc C s.k) s.k y1 y2 y3 y4 y5 y6 y7 y8 y9 y10 y11 y12) (fun _ => by kernel_rfl) (by
  unfold T110
  repeat' first | with_reducible exact cC | exact cD0 gK) h
def T100 (O : Orc) (k : Nat) (y1 : Nat) (y2 : List V) : Option V := O.L 0 100 0 [true, true, false, true] [] k [(3, int .i64 0), (6, sl y1 y2), (7, int .i64 (↑y1 : Int)),
 (8, int .i64 0)] []
theorem E100 (y1 y2) {r : V} (h : T100 (orcE C) 0 y1 y2 = some r) : runE C 100 [sl y1 y2] = some r := ofR (j := 1) (F := fun s => T100 (orc C s.k) s.k y1 y2) (fun _ =>
 by kernel_rfl) (by
  unfold T100
  repeat' first | with_reducible exact cC | exact cD0 gK) h
def T111 (O : Orc) (y1 : Nat) (y2 : List V) : Option V := bif y1.beq (OfNat.ofNat 0) then both (some (tup [osl 0 []])) (must (decide (y2.length = y1 * 1)) (must
 (true && (0 + y1).ble 140737488355328 && ((0 + y1) * 24).ble 140737488355328) (some (tup [osl (0 + y1) y2])))) else must (decide (y2.length = y1 * 1)) (must (true && (0 + y1).ble 140737488355328
 && ((0 + y1) * 24).ble 140737488355328) (some (tup [osl (0 + y1) y2])))
theorem E111 (y1 y2) {r : V} (h : T111 (orcE C) y1 y2 = some r) : runE C 111 [sl y1 y2] = some r := ofR (j := 1) (F := fun s => T111 (orc C s.k) y1 y2) (fun _ =>
 by kernel_rfl) (by
  unfold T111
  repeat' first | (with_reducible first | exact cC | refine cM ?_ | refine cF ?_ ?_ | refine cW ?_ ?_)) h
def T67l1 (O : Orc) (m : Nat) (y1 y2 y3 y4 : Int) (y5 : Nat) (y6 : List V) (y7 : Nat) (y8 : List V) (y9 : Nat) (y10 : List V) (y11 y12 : Int) (y13
 : Int) (y14 : Int) (y15 : Bool) (y16 : Int) (y17 : Nat) (y18 : List V) (y19 : Nat) (y20 : List V) (y21 : Nat) (y22 : List V) (y23 : Nat) (y24 : List V) (y25 : Nat) (y26 : List V) (y27 : Int) (y28 :
 Int) (y29 : Nat) (y30 : List V) (y31 : Nat) (y32 : List V) (y33 : Nat) (y34 : List V) (y35 : Nat) (y36 : List V) (y37 : Int) (y38 : Bool) (y39 : Int) (y40 : Nat) (y41 : List V) : Option V := bif
 decide (y2 < y1) then must (true && (y40 + 1).ble 140737488355328 && ((y40 + 1) * 24).ble 140737488355328) (O.L 0 67 0 [true, true, true, true, true, true, false, true] [] m [(4, ptr 0 0), (6, ptr
 1 0), (8, ptr 7 0), (51, int .i64 y1), (52, int .i64 (i64.wrap (y2 + 1)))] [Ob.box 35 [int .i64 y3, int .i64 y4, sl y5 y6, sl y7 y8, sl y9 y10] false, Ob.box 40 [int .i64
 y11, int .i64 y12, int .i64 y13, ref 2, ref 3, ref 4, ref 5, int .i64 y14, bool y15, ref 6, int .i64 y16] false, Ob.row 5 y17 y18 false, Ob.row 5 y19 y20 false, Ob.row 5 y21 y22
 false, Ob.row 78 y23 y24 false, Ob.nrow [] 22 y25 y26, Ob.box 38 [int .i64 y27, int .i64 y28, sl y29 y30, sl y31 y32, sl y33 y34, sl y35 y36, int .i64 y37, bool y38, ref 8, int
 .i64 y39] false, Ob.row 22 (y40 + 1) (y41 ++ [sl 0 []]) false]) else must (true && (y40 + 1).ble 140737488355328 && ((y40 + 1) * 24).ble 140737488355328) (bif decide (i64.wrap ((↑(y40 + 1) :
 Int) - 24) > 0) then both (must (decide (0 ≤ i64.wrap ((↑(y40 + 1) : Int) - 24)) && decide (i64.wrap ((↑(y40 + 1) : Int) - 24) ≤ (↑(y40 + 1) : Int))) (need (O.R 0 52 [agg [int .i64
 y27, int .i64 y28, sl y29 y30, sl y31 y32, sl y33 y34, sl y35 y36, int .i64 y37, bool y38, sl (y40 + 1 - (i64.wrap ((↑(y40 + 1) : Int) - 24)).toNat) (List.take ((y40 + 1 -
 (i64.wrap ((↑(y40 + 1) : Int) - 24)).toNat) * 1) (List.drop ((i64.wrap ((↑(y40 + 1) : Int) - 24)).toNat * 1) (y41 ++ [sl y5 y6]))), int .i64 (i64.wrap (y39 +
 i64.wrap ((↑(y40 + 1) : Int) - 24)))]]) fun x1 => asTup (some x1) fun x2 => PI.asInt .i64 x2[0]? fun x3 => PI.asInt .i64 x2[1]? fun x4 => asOsl x2[2]? fun x5 x6 => asOsl x2[3]? fun x7 x8 =>
 asOsl x2[4]? fun x9 x10 => asOsl x2[5]? fun x11 x12 => PI.asInt .i64 x2[6]? fun x13 => PI.asBool x2[7]? fun x14 => asOsl x2[8]? fun x15 x16 => PI.asInt .i64 x2[9]? fun x17 => must (false || x6.all
 flatV) (must (false || x8.all flatV) (must (false || x10.all flatV) (some (tup [int .i64 0, int .i64 x3, int .i64 x4, osl x5 x6, osl x7 x8, osl x9 x10, osl x11 x12, int .i64 x13,
 bool x14, osl x15 x16, int .i64 x17])))))) (must (decide (0 ≤ i64.wrap ((↑(y40 + 1) : Int) - 24)) && decide (i64.wrap ((↑(y40 + 1) : Int) - 24) ≤ (↑(y40 + 1) : Int))) (need (O.R
 0 52 [agg [int .i64 y27, int .i64 y28, sl y29 y30, sl y31 y32, sl y33 y34, sl y35 y36, int .i64 y37, bool y38, sl (y40 + 1 - (i64.wrap ((↑(y40 + 1) : Int) - 24)).toNat)
 (List.take ((y40 + 1 - (i64.wrap ((↑(y40 + 1) : Int) - 24)).toNat) * 1) (List.drop ((i64.wrap ((↑(y40 + 1) : Int) - 24)).toNat * 1) (y41 ++ [sl y5 y6]))), int .i64
 (i64.wrap (y39 + i64.wrap ((↑(y40 + 1) : Int) - 24)))]]) fun x18 => asTup (some x18) fun x19 => PI.asInt .i64 x19[0]? fun x20 => PI.asInt .i64 x19[1]? fun x21 => asOsl x19[2]? fun x22
 x23 => asOsl x19[3]? fun x24 x25 => asOsl x19[4]? fun x26 x27 => asOsl x19[5]? fun x28 x29 => PI.asInt .i64 x19[6]? fun x30 => PI.asBool x19[7]? fun x31 => asOsl x19[8]? fun x32 x33 => PI.asInt .i64
 x19[9]? fun x34 => must (false || x23.all flatV) (must (false || x25.all flatV) (must (false || x27.all flatV) (some (tup [int .i64 0, int .i64 x20, int .i64 x21, osl x22 x23, osl x24 x25,
 osl x26 x27, osl x28 x29, int .i64 x30, bool x31, osl x32 x33, int .i64 x34])))))) else need (O.R 0 52 [agg [int .i64 y27, int .i64 y28, sl y29 y30, sl y31 y32, sl y33 y34,
 sl y35 y36, int .i64 y37, bool y38, sl (y40 + 1) (y41 ++ [sl y5 y6]), int .i64 y39]]) fun x35 => asTup (some x35) fun x36 => PI.asInt .i64 x36[0]? fun x37 => PI.asInt .i64 x36[1]? fun x38
 => asOsl x36[2]? fun x39 x40 => asOsl x36[3]? fun x41 x42 => asOsl x36[4]? fun x43 x44 => asOsl x36[5]? fun x45 x46 => PI.asInt .i64 x36[6]? fun x47 => PI.asBool x36[7]? fun x48 => asOsl x36[8]? fun
 x49 x50 => PI.asInt .i64 x36[9]? fun x51 => must (false || x40.all flatV) (must (false || x42.all flatV) (must (false || x44.all flatV) (some (tup [int .i64 0, int .i64 x37, int .i64 x38,
 osl x39 x40, osl x41 x42, osl x43 x44, osl x45 x46, int .i64 x47, bool x48, osl x49 x50, int .i64 x51])))))
theorem E67l1 (y1 y2 y3 y4 y5 y6 y7 y8 y9 y10 y11 y12 y13 y14 y15) (y16 :
 Int) (y17 : Nat) (y18 : List V) (y19 : Nat) (y20 : List V) (y21 : Nat) (y22 : List V) (y23 : Nat) (y24 : List V) (y25 : Nat) (y26 : List V) (y27 : Int) (y28 : Int) (y29 : Nat) (y30 : List V) (y31 :
 Nat) (y32 : List V) (y33 : Nat) (y34 : List V) (y35 : Nat) (y36 : List V) (y37 : Int) (y38 : Bool) (y39 : Int) (y40 : Nat) (y41 : List V) {r : V} (h : T67l1 (orcE C) 0 y1 y2 y3 y4 y5 y6 y7 y8 y9
 y10 y11 y12 y13 y14 y15 y16 y17 y18 y19 y20 y21 y22 y23 y24 y25 y26 y27 y28 y29 y30 y31 y32 y33 y34 y35 y36 y37 y38 y39 y40 y41 = some r) : loopE C 67 0 [true, true, true, true, true, true, false,
 true] [] [(4, ptr 0 0), (6, ptr 1 0), (8, ptr 7 0), (51, int .i64 y1), (52, int .i64 y2)] [Ob.box 35 [int .i64 y3, int .i64 y4, sl y5 y6, sl y7 y8, sl y9 y10] false, Ob.box 40
 [int .i64 y11, int .i64 y12, int .i64 y13, ref 2, ref 3, ref 4, ref 5, int .i64 y14, bool y15, ref 6, int .i64 y16] false, Ob.row 5 y17 y18 false, Ob.row 5 y19 y20 false, Ob.row
 5 y21 y22 false, Ob.row 78 y23 y24 false, Ob.nrow [] 22 y25 y26, Ob.box 38 [int .i64 y27, int .i64 y28, sl y29 y30, sl y31 y32, sl y33 y34, sl y35 y36, int .i64 y37, bool y38, ref 8,
 int .i64 y39] false, Ob.row 22 y40 y41 false] = some r := ofL (j := 0) (F := fun s => T67l1 (orc C s.k) s.m y1 y2 y3 y4 y5 y6 y7 y8 y9 y10 y11 y12 y13 y14 y15 y16 y17 y18 y19 y20 y21 y22 y23
 y24 y25 y26 y27 y28 y29 y30 y31 y32 y33 y34 y35 y36 y37 y38 y39 y40 y41) (fs0 fun _ _ => by kernel_rfl) (by
  unfold T67l1
  repeat' first | (with_reducible first | exact cC | refine cN cR fun _ => ?_ | refine cT fun _ => ?_ | refine cI fun _ => ?_ | refine cM ?_ | refine cF ?_ ?_ | refine cB fun _ => ?_ | refine cO fun _ _ => ?_ | refine cN cC fun _ => ?_ | refine cW ?_ ?_ | exact cR) | exact cD0 gM) h
def T104 (O : Orc) (k : Nat) (y1 : Nat) (y2 : List V) (y3 : Nat) (y4 : List V) : Option V := bif (↑y1 : Int) != (↑y3 : Int) then some (tup [bool false]) else O.L 0 104 0
 [true, true, false, true] [] k [(0, sl y1 y2), (1, sl y3 y4), (5, int .i64 0)] []
theorem E104 (y1 y2 y3 y4) {r : V} (h : T104 (orcE C) 0 y1 y2 y3 y4 = some r) : runE C 104 [sl y1 y2, sl y3 y4] = some r := ofR (j := 1) (F := fun s =>
 T104 (orc C s.k) s.k y1 y2 y3 y4) (fun _ => by kernel_rfl) (by
  unfold T104
  repeat' first | (with_reducible first | exact cC | refine cF ?_ ?_) | exact cD0 gK) h
def T54l1 (O : Orc) (m : Nat) (y1 : Nat) (y2 : List V) (y3 : Nat) (y4 : List V) (y5 : Int) : Option V := bif decide (y5 < (↑y1 : Int)) then must (inB y5 y1) (must (decide
 (y5.toNat * 1 < y2.length)) (must (inB y5 y3) (must (decide (y5.toNat * 1 < y4.length)) (asSl y2[y5.toNat * 1]? fun x1 x2 => asSl y4[y5.toNat * 1]? fun x3 x4 => need (O.R 0 104 [sl x1 x2, sl x3
 x4]) fun x5 => asTup (some x5) fun x6 => PI.asBool x6[0]? fun x7 => bif !x7 then some (tup [bool false]) else O.L 0 54 0 [true, true, false, true] [] m [(0, sl y1 y2), (1, sl y3 y4), (5, int
 .i64 (i64.wrap (y5 + 1)))] [])))) else some (tup [bool true])
theorem E54l1 (y1 y2 y3 y4 y5) {r : V} (h : T54l1 (orcE C) 0 y1 y2 y3 y4 y5 = some r) : loopE C 54 0 [true, true, false, true] [] [(0, sl y1 y2), (1,
 sl y3 y4), (5, int .i64 y5)] [] = some r := ofL (j := 0) (F := fun s => T54l1 (orc C s.k) s.m y1 y2 y3 y4 y5) (fs0 fun _ _ => by kernel_rfl) (by
  unfold T54l1
  repeat' first | (with_reducible first | exact cC | refine cN cR fun _ => ?_ | refine cT fun _ => ?_ | refine cM ?_ | refine cF ?_ ?_ | refine cB fun _ => ?_ | refine cL fun _ _ => ?_ | refine cN cC fun _ => ?_ | exact cR) | exact cD0 gM) h
def T56l1 (O : Orc) (m : Nat) (y1 : Nat) (y2 : List V) (y3 : Nat) (y4 : List V) (y5 : Int) : Option V := bif decide (y5 < (↑y1 : Int)) then must (inB y5 y1) (PI.asInt .i64
 y2[y5.toNat * 6]? fun x1 => PI.asInt .i64 y2[y5.toNat * 6 + 1]? fun x2 => asSl y2[y5.toNat * 6 + 1 + 1]? fun x3 x4 => PI.asInt .i64 y2[y5.toNat * 6 + 1 + 1 + 1]? fun x5 => PI.asInt .i64 y2[y5.toNat *
 6 + 1 + 1 + 1 + 1]? fun x6 => asSl y2[y5.toNat * 6 + 1 + 1 + 1 + 1 + 1]? fun x7 x8 => must (inB y5 y3) (PI.asInt .i64 y4[y5.toNat * 6]? fun x9 => PI.asInt .i64 y4[y5.toNat * 6 + 1]? fun x10 => asSl
 y4[y5.toNat * 6 + 1 + 1]? fun x11 x12 => PI.asInt .i64 y4[y5.toNat * 6 + 1 + 1 + 1]? fun x13 => PI.asInt .i64 y4[y5.toNat * 6 + 1 + 1 + 1 + 1]? fun x14 => asSl y4[y5.toNat * 6 + 1 + 1 + 1 + 1 + 1]?
 fun x15 x16 => need (O.R 0 105 [agg [int .i64 x1, int .i64 x2, sl x3 x4, int .i64 x5, int .i64 x6, sl x7 x8], agg [int .i64 x9, int .i64 x10, sl x11 x12, int .i64 x13, int
 .i64 x14, sl x15 x16]]) fun x17 => asTup (some x17) fun x18 => PI.asBool x18[0]? fun x19 => bif !x19 then some (tup [bool false]) else O.L 0 56 0 [true, true, false, true] [] m [(0, sl y1 y2),
 (1, sl y3 y4), (5, int .i64 (i64.wrap (y5 + 1)))] [])) else some (tup [bool true])
theorem E56l1 (y1 y2 y3 y4 y5) {r : V} (h : T56l1 (orcE C) 0 y1 y2 y3 y4 y5 = some r) : loopE C 56 0 [true, true, false, true] [] [(0, sl y1 y2), (1,
 sl y3 y4), (5, int .i64 y5)] [] = some r := ofL (j := 0) (F := fun s => T56l1 (orc C s.k) s.m y1 y2 y3 y4 y5) (fs0 fun _ _ => by kernel_rfl) (by
  unfold T56l1
  repeat' first | (with_reducible first | exact cC | refine cN cR fun _ => ?_ | refine cT fun _ => ?_ | refine cI fun _ => ?_ | refine cM ?_ | refine cF ?_ ?_ | refine cB fun _ => ?_ | refine cL fun _ _ => ?_ | refine cN cC fun _ => ?_ | exact cR) | exact cD0 gM) h
def T55 (O : Orc) (y1 : Nat) (y2 : List V) (y3 : Int) (y4 : Nat) (y5 : List V) (y6 : Int) : Option V := need (O.R 0 104 [sl y1 y2, sl y4 y5]) fun x1 => asTup (some
 x1) fun x2 => PI.asBool x2[0]? fun x3 => bif !x3 then some (tup [bool false]) else bif y3 != y6 then some (tup [bool false]) else some (tup [bool true])
theorem E55 (y1 y2 y3 y4 y5 y6) {r : V} (h : T55 (orcE C) y1 y2 y3 y4 y5 y6 = some r) : runE C 55 [agg [sl y1 y2, int .i64 y3], agg
 [sl y4 y5, int .i64 y6]] = some r := ofR (j := 1) (F := fun s => T55 (orc C s.k) y1 y2 y3 y4 y5 y6) (fun _ => by kernel_rfl) (by
  unfold T55
  repeat' first | (with_reducible first | exact cC | refine cN cR fun _ => ?_ | refine cT fun _ => ?_ | refine cF ?_ ?_ | refine cB fun _ => ?_ | refine cN cC fun _ => ?_ | exact cR)) h
def T59 (O : Orc) (k : Nat) (y1 : Int) (y2 : Nat) (y3 : List V) : Option V := O.X 0 59 [0] [Ob.row 5 0 [] false] 0 [true, false, true] [] k [(0, ref 0), (1, int .i64 y1), (5,
 int .i64 0)] [Ob.row 5 y2 y3 false]
theorem E59 (y1 y2 y3) {r : V} (h : T59 (orcE C) 0 y1 y2 y3 = some r) : runWE C 59 [0] [ref 0, int .i64 y1] [Ob.row 5 y2 y3 false] = some r := ofW (j := 1) (F := fun
 s => T59 (orc C s.k) s.k y1 y2 y3) (fun _ => by kernel_rfl) (by
  unfold T59
  repeat' first | with_reducible exact cC | exact cX0 gK) h
def T58l1 (O : Orc) (m : Nat) (y1 y2 : Int) (y3 : Nat) (y4 : List V) : Option V := bif decide (y2 < (↑y3 : Int)) then must (inB y2 y3) (asOwn false 5 1 y4[y2.toNat * 1]?
 fun x1 x2 => need (O.W 0 59 [0] [ref 0, int .i64 y1] [Ob.row 5 x1 x2 false]) fun x3 => asTup (some x3) fun x4 => PI.asInt .i64 x4[0]? fun x5 => asOsl x4[1]? fun x6 x7 => must (x7.all flatV) (O.X 0
 58 [0] [Ob.nrow [] 22 0 []] 0 [true, false, true] [] m [(0, ref 0), (1, int .i64 x5), (5, int .i64 (i64.wrap (y2 + 1)))] [Ob.nrow [] 22 y3 (y4.set (y2.toNat * 1) (own false 5 1 x6
 x7))])) else some (tup [int .i64 y1, osl y3 y4])
theorem E58l1 (y1 y2 y3 y4) {r : V} (h : T58l1 (orcE C) 0 y1 y2 y3 y4 = some r) : loopWE C 58 [0] [Ob.nrow [] 22 0 []] 0 [true, false, true] [] [(0, ref 0), (1,
 int .i64 y1), (5, int .i64 y2)] [Ob.nrow [] 22 y3 y4] = some r := ofX (j := 0) (F := fun s => T58l1 (orc C s.k) s.m y1 y2 y3 y4) (fs0 fun _ _ => by kernel_rfl) (by
  unfold T58l1
  repeat' first | (with_reducible first | exact cC | refine cN cQ fun _ => ?_ | refine cT fun _ => ?_ | refine cI fun _ => ?_ | refine cM ?_ | refine cF ?_ ?_ | refine cO fun _ _ => ?_ | refine cP fun _ _ => ?_ | refine cN cC fun _ => ?_ | exact cQ) | exact cX0 gM) h
def T60l1 (O : Orc) (m : Nat) (y1 y2 : Int) (y3 : Nat) (y4 : List V) : Option V := bif decide (y2 < (↑y3 : Int)) then must (inB y2 y3) (must ([int .i64 y1].length.beq 1
 && (y2.toNat * 6 + 0 + [int .i64 y1].length).ble y4.length) (must (inB y2 y3) (must ([int .i64 (i64.wrap (y1 + 1))].length.beq 1 && (y2.toNat * 6 + 1 + 0 + [int .i64 (i64.wrap
 (y1 + 1))].length).ble (splice y4 (y2.toNat * 6 + 0) [int .i64 y1]).length) (must (inB y2 y3) (asOwn true 22 1 (splice (splice y4 (y2.toNat * 6 + 0) [int .i64 y1]) (y2.toNat * 6 + 1 + 0) [int
 .i64 (i64.wrap (y1 + 1))])[y2.toNat * 6 + 1 + 1]? fun x1 x2 => need (O.W 0 58 [0] [ref 0, int .i64 (i64.wrap (i64.wrap (y1 + 1) + 1))] [Ob.nrow [] 22 x1 x2]) fun x3 =>
 asTup (some x3) fun x4 => PI.asInt .i64 x4[0]? fun x5 => asOsl x4[1]? fun x6 x7 => must (inB y2 y3) (must ([int .i64 x5].length.beq 1 && (y2.toNat * 6 + 1 + 2 + 0 + [int .i64 x5].length).ble
 ((splice (splice y4 (y2.toNat * 6 + 0) [int .i64 y1]) (y2.toNat * 6 + 1 + 0) [int .i64 (i64.wrap (y1 + 1))]).set (y2.toNat * 6 + 1 + 1) (own true 22 1 x6 x7)).length) (must (inB y2 y3)
 (must ([int .i64 (i64.wrap (x5 + 1))].length.beq 1 && (y2.toNat * 6 + 1 + 2 + 1 + [int .i64 (i64.wrap (x5 + 1))].length).ble (splice ((splice (splice y4 (y2.toNat * 6 + 0) [int
 .i64 y1]) (y2.toNat * 6 + 1 + 0) [int .i64 (i64.wrap (y1 + 1))]).set (y2.toNat * 6 + 1 + 1) (own true 22 1 x6 x7)) (y2.toNat * 6 + 1 + 2 + 0) [int .i64 x5]).length) (must (inB y2 y3)
 (asOwn true 22 1 (splice (splice ((splice (splice y4 (y2.toNat * 6 + 0) [int .i64 y1]) (y2.toNat * 6 + 1 + 0) [int .i64 (i64.wrap (y1 + 1))]).set (y2.toNat * 6 + 1 + 1) (own true 22 1 x6
 x7)) (y2.toNat * 6 + 1 + 2 + 0) [int .i64 x5]) (y2.toNat * 6 + 1 + 2 + 1) [int .i64 (i64.wrap (x5 + 1))])[y2.toNat * 6 + 1 + 2 + 2]? fun x8 x9 => need (O.W 0 58 [0] [ref 0, int .i64
 (i64.wrap (i64.wrap (x5 + 1) + 1))] [Ob.nrow [] 22 x8 x9]) fun x10 => asTup (some x10) fun x11 => PI.asInt .i64 x11[0]? fun x12 => asOsl x11[1]? fun x13 x14 => O.X 0 60 [0] [Ob.nrow []
 110 0 []] 0 [true, false, true] [] m [(0, ref 0), (1, int .i64 x12), (5, int .i64 (i64.wrap (y2 + 1)))] [Ob.nrow [] 110 y3 ((splice (splice ((splice (splice y4 (y2.toNat * 6 + 0) [int
 .i64 y1]) (y2.toNat * 6 + 1 + 0) [int .i64 (i64.wrap (y1 + 1))]).set (y2.toNat * 6 + 1 + 1) (own true 22 1 x6 x7)) (y2.toNat * 6 + 1 + 2 + 0) [int .i64 x5]) (y2.toNat * 6 + 1 + 2 + 1)
 [int .i64 (i64.wrap (x5 + 1))]).set (y2.toNat * 6 + 1 + 2 + 2) (own true 22 1 x13 x14))])))))))))) else some (tup [int .i64 y1, osl y3 y4])
theorem E60l1 (y1 y2 y3 y4) {r : V} (h : T60l1 (orcE C) 0 y1 y2 y3 y4 = some r) : loopWE C 60 [0] [Ob.nrow [] 110 0 []] 0 [true, false, true] [] [(0, ref 0),
 (1, int .i64 y1), (5, int .i64 y2)] [Ob.nrow [] 110 y3 y4] = some r := ofX (j := 0) (F := fun s => T60l1 (orc C s.k) s.m y1 y2 y3 y4) (fs0 fun _ _ => by kernel_rfl) (by
  unfold T60l1
  repeat' first | (with_reducible first | exact cC | refine cN cQ fun _ => ?_ | refine cT fun _ => ?_ | refine cI fun _ => ?_ | refine cM ?_ | refine cF ?_ ?_ | refine cO fun _ _ => ?_ | refine cP fun _ _ => ?_ | refine cN cC fun _ => ?_ | exact cQ) | exact cX0 gM) h
def T106 (O : Orc) (y1 y2 : Int) (y3 : Nat) (y4 : List V) (y5 : Nat) (y6 : List V) (y7 : Nat) (y8 : List V) (y9 : Int) : Option V := need (O.R 0 130 [sl y3 y4,
 int .i64 y9]) fun x1 => asTup (some x1) fun x2 => PI.asInt .i64 x2[0]? fun x3 => bif decide (x3 < 0) then some (tup [int .i64 (-1)]) else need (O.R 0 130 [sl y5 y6, int .i64 x3]) fun x4 =>
 asTup (some x4) fun x5 => PI.asInt .i64 x5[0]? fun x6 => bif decide (x6 < 0) then some (tup [int .i64 (-1)]) else need (O.R 0 130 [sl y7 y8, int .i64 x6]) fun x7 => asTup (some x7) fun x8 =>
 PI.asInt .i64 x8[0]? fun x9 => bif decide (x9 < 0) then some (tup [int .i64 (-1)]) else some (tup [int .i64 x9])
theorem E106 (y1 y2 y3 y4 y5 y6 y7 y8 y9) {r : V} (h : T106 (orcE C) y1 y2 y3 y4 y5 y6 y7 y8 y9 = some r) : runE C
 106 [agg [int .i64 y1, int .i64 y2, sl y3 y4, sl y5 y6, sl y7 y8], int .i64 y9] = some r := ofR (j := 1) (F := fun s => T106 (orc C s.k) y1 y2 y3 y4 y5 y6 y7 y8 y9) (fun _ =>
 by kernel_rfl) (by
  unfold T106
  repeat' first | (with_reducible first | exact cC | refine cN cR fun _ => ?_ | refine cT fun _ => ?_ | refine cI fun _ => ?_ | refine cF ?_ ?_ | refine cN cC fun _ => ?_ | exact cR)) h
def T107 (O : Orc) (k : Nat) (y1 : Nat) (y2 : List V) (y3 : Int) : Option V := O.L 0 107 0 [true, false, true] [] k [(0, sl y1 y2), (1, int .i64 y3), (5, int .i64 0)] []
theorem E107 (y1 y2 y3) {r : V} (h : T107 (orcE C) 0 y1 y2 y3 = some r) : runE C 107 [sl y1 y2, int .i64 y3] = some r := ofR (j := 1) (F := fun s => T107 (orc C s.k) s.k y1 y2 y3) (fun _ => by kernel_rfl) (by
  unfold T107
  repeat' first | with_reducible exact cC | exact cD0 gK) h
def T108 (O : Orc) (k : Nat) (y1 : Nat) (y2 : List V) (y3 : Int) : Option V := O.L 0 108 0 [true, false, true] [] k [(0, sl y1 y2), (1, int .i64 y3), (5, int .i64 0)] []
theorem E108 (y1 y2 y3) {r : V} (h : T108 (orcE C) 0 y1 y2 y3 = some r) : runE C 108 [sl y1 y2, int .i64 y3] = some r := ofR (j := 1) (F := fun s => T108 (orc C s.k) s.k y1 y2 y3) (fun _ => by kernel_rfl) (by
  unfold T108
  repeat' first | with_reducible exact cC | exact cD0 gK) h
def T70 (O : Orc) (y1 y2 : Int) (y3 : Nat) (y4 : List V) (y5 y6 : Int) (y7 : Nat) (y8 : List V) (y9 : Int) : Option V := need (O.R 0 112 [agg [int
 .i64 y2, sl y3 y4, int .i64 y5, int .i64 y6, sl y7 y8], int .i64 y9]) fun x1 => asTup (some x1) fun x2 => PI.asInt .i64 x2[0]? fun x3 => bif decide (x3 < 0) then some (tup [int .i64
 (-1)]) else some (tup [int .i64 x3])
theorem E70 (y1 y2 y3 y4 y5 y6 y7 y8 y9) {r : V} (h : T70 (orcE C) y1 y2 y3 y4 y5 y6 y7 y8 y9 = some r) : runE C 70
 [agg [int .i64 y1, int .i64 y2, sl y3 y4, int .i64 y5, int .i64 y6, sl y7 y8], int .i64 y9] = some r := ofR (j := 1) (F := fun s => T70 (orc C s.k) y1 y2 y3 y4 y5 y6 y7 y8
 y9) (fun _ => by kernel_rfl) (by
  unfold T70
  repeat' first | (with_reducible first | exact cC | refine cN cR fun _ => ?_ | refine cT fun _ => ?_ | refine cI fun _ => ?_ | refine cF ?_ ?_ | refine cN cC fun _ => ?_ | exact cR)) h
def T86l1 (O : Orc) (m : Nat) (y1 : Nat) (y2 : List V) (y3 : Int) (y4 : Nat) (y5 : List V) : Option V := bif decide (y3 < (↑y1 : Int)) then must (inB y3 y1) (PI.asInt .u8
 y2[y3.toNat * 1]? fun x1 => must (inB y3 y4) (must ([int .u8 x1].length.beq 1 && (y3.toNat * 1 + [int .u8 x1].length).ble y5.length) (O.L 0 86 0 [true, true, false, true] [] m [(0, sl y1 y2),
 (3, ref 0), (4, int .i64 (i64.wrap (y3 + 1)))] [Ob.row 5 y4 (splice y5 (y3.toNat * 1) [int .u8 x1]) false]))) else must (false || y5.all flatV) (some (tup [osl y4 y5]))
theorem E86l1 (y1 y2 y3 y4 y5) {r : V} (h : T86l1 (orcE C) 0 y1 y2 y3 y4 y5 = some r) : loopE C 86 0 [true, true, false, true] [] [(0, sl y1 y2), (3,
 ref 0), (4, int .i64 y3)] [Ob.row 5 y4 y5 false] = some r := ofL (j := 0) (F := fun s => T86l1 (orc C s.k) s.m y1 y2 y3 y4 y5) (fs0 fun _ _ => by kernel_rfl) (by
  unfold T86l1
  repeat' first | (with_reducible first | exact cC | refine cI fun _ => ?_ | refine cM ?_ | refine cF ?_ ?_) | exact cD0 gM) h
def T87 (O : Orc) (y1 y2 : Int) (y3 : Nat) (y4 : List V) (y5 y6 : Int) (y7 : Nat) (y8 : List V) : Option V := need (O.R 0 118 [agg [int .i64 y2, sl
 y3 y4, int .i64 y5, int .i64 y6, sl y7 y8]]) fun x1 => asTup (some x1) fun x2 => PI.asInt .i64 x2[0]? fun x3 => asOsl x2[1]? fun x4 x5 => PI.asInt .i64 x2[2]? fun x6 => PI.asInt .i64 x2[3]? fun
 x7 => asOsl x2[4]? fun x8 x9 => some (tup [int .i64 y1, int .i64 x3, osl x4 x5, int .i64 x6, int .i64 x7, osl x8 x9])
theorem E87 (y1 y2 y3 y4 y5 y6 y7 y8) {r : V} (h : T87 (orcE C) y1 y2 y3 y4 y5 y6 y7 y8 = some r) : runE C 87 [agg [int
 .i64 y1, int .i64 y2, sl y3 y4, int .i64 y5, int .i64 y6, sl y7 y8]] = some r := ofR (j := 1) (F := fun s => T87 (orc C s.k) y1 y2 y3 y4 y5 y6 y7 y8) (fun _ => by kernel_rfl) (by
  unfold T87
  repeat' first | (with_reducible first | exact cC | refine cN cR fun _ => ?_ | refine cT fun _ => ?_ | refine cI fun _ => ?_ | refine cO fun _ _ => ?_ | refine cN cC fun _ => ?_ | exact cR)) h
def T71 (O : Orc) (y1 y2 : Int) (y3 : Nat) (y4 : List V) (y5 : Nat) (y6 : List V) (y7 : Nat) (y8 : List V) : Option V := bif (↑y3 : Int) != 32 then some (tup
 [int .i64 1]) else bif (↑y5 : Int) != 32 then some (tup [int .i64 1]) else bif (↑y7 : Int) != 32 then some (tup [int .i64 1]) else need (O.R 0 74 [int .i64 y1, int .i64 1, int .i64
 1000000]) fun x1 => asTup (some x1) fun x2 => PI.asBool x2[0]? fun x3 => bif !x3 then some (tup [int .i64 3]) else need (O.R 0 74 [int .i64 y2, int .i64 0, int .i64 1099511627776]) fun x4 =>
 asTup (some x4) fun x5 => PI.asBool x5[0]? fun x6 => bif !x6 then some (tup [int .i64 3]) else some (tup [int .i64 0])
theorem E71 (y1 y2 y3 y4 y5 y6 y7 y8) {r : V} (h : T71 (orcE C) y1 y2 y3 y4 y5 y6 y7 y8 = some r) : runE C 71 [agg
 [int .i64 y1, int .i64 y2, sl y3 y4, sl y5 y6, sl y7 y8]] = some r := ofR (j := 1) (F := fun s => T71 (orc C s.k) y1 y2 y3 y4 y5 y6 y7 y8) (fun _ => by kernel_rfl) (by
  unfold T71
  repeat' first | (with_reducible first | exact cC | refine cN cR fun _ => ?_ | refine cT fun _ => ?_ | refine cF ?_ ?_ | refine cB fun _ => ?_ | refine cN cC fun _ => ?_ | exact cR)) h
def T72 (O : Orc) (k : Nat) (y1 : Nat) (y2 : List V) : Option V := bif (↑y1 : Int) == 0 then some (tup [int .i64 4]) else bif decide ((↑y1 : Int) > 5) then some (tup [int
 .i64 2]) else O.L 0 72 0 [true, true, true, false, true] [] k [(0, sl y1 y2), (3, int .i64 0)] []
theorem E72 (y1 y2) {r : V} (h : T72 (orcE C) 0 y1 y2 = some r) : runE C 72 [sl y1 y2] = some r := ofR (j := 1) (F := fun s => T72 (orc C s.k) s.k y1 y2) (fun _ => by
 kernel_rfl) (by
  unfold T72
  repeat' first | (with_reducible first | exact cC | refine cF ?_ ?_) | exact cD0 gK) h
def T73 (O : Orc) (k : Nat) (y1 : Nat) (y2 : List V) : Option V := O.L 0 73 0 [true, true, false, true] [] k [(0, sl y1 y2), (3, ref 0), (4, int .i64 0)] [Ob.row 22 0 []
 false]
theorem E73 (y1 y2) {r : V} (h : T73 (orcE C) 0 y1 y2 = some r) : runE C 73 [sl y1 y2] = some r := ofR (j := 1) (F := fun s => T73 (orc C s.k) s.k y1 y2) (fun _ => by
 kernel_rfl) (by
  unfold T73
  repeat' first | with_reducible exact cC | exact cD0 gK) h
def T37 (O : Orc) (y1 : Nat) (y2 : List V) (y3 : Nat) (y4 : List V) : Option V := need (O.R 0 76 [sl y1 y2, sl y3 y4]) fun x1 => asTup (some x1) fun x2 => PI.asInt
 .i64 x2[0]? fun x3 => some (tup [bool (x3 == 0)])
theorem E37 (y1 y2 y3 y4) {r : V} (h : T37 (orcE C) y1 y2 y3 y4 = some r) : runE C 37 [sl y1 y2, sl y3 y4] = some r := ofR (j := 1) (F := fun s => T37 (orc C s.k) y1 y2 y3 y4) (fun _ => by kernel_rfl) (by
  unfold T37
  repeat' first | (with_reducible first | exact cC | refine cN cR fun _ => ?_ | refine cT fun _ => ?_ | refine cI fun _ => ?_ | refine cN cC fun _ => ?_ | exact cR)) h
def T74 (O : Orc) (y1 y2 y3 : Int) : Option V := bif decide (y1 ≥ y2) then some (tup [bool (decide (y1 ≤ y3))]) else some (tup [bool false])
theorem E74 (y1 y2 y3) {r : V} (h : T74 (orcE C) y1 y2 y3 = some r) : runE C 74 [int .i64 y1, int .i64 y2, int .i64 y3] = some r := ofR (j := 1) (F := fun s => T74 (orc C s.k) y1 y2 y3) (fun _ => by kernel_rfl) (by
  unfold T74
  repeat' first | (with_reducible first | exact cC | refine cF ?_ ?_)) h
def T34l1 (O : Orc) (m : Nat) (y1 y2 y3 y4 : Int) (y5 : Nat) (y6 : List V) (y7 : Nat) (y8 : List V) (y9 : Nat) (y10 : List V) (y11 : Nat) (y12 : List V) (y13 : Int) (y14 : Bool) (y15 : Nat) (y16 : List V) (y17 : Int) : Option V := bif decide (y2 < y1) then must (inB y2 y15) (must (decide (y2.toNat * 1 < y16.length)) (asSl y16[y2.toNat * 1]? fun x1 x2
 => bif (↑x1 : Int) != 32 then must (inB y2 y15) (must (decide (y2.toNat * 1 < y16.length)) (asSl y16[y2.toNat * 1]? fun x3 x4 => bif (↑x3 : Int) != 0 then some (tup [int .i64 1]) else O.L 0 34 0
 [true, true, true, true, true, true, true, true, false, true] [] m [(1, ptr 0 0), (5, int .i64 y1), (6, int .i64 (i64.wrap (y2 + 1)))] [Ob.box 38 [int .i64 y3, int .i64 y4, sl y5
 y6, sl y7 y8, sl y9 y10, sl y11 y12, int .i64 y13, bool y14, sl y15 y16, int .i64 y17] false])) else O.L 0 34 0 [true, true, true, true, true, true, true, true, false, true] [] m [(1,
 ptr 0 0), (5, int .i64 y1), (6, int .i64 (i64.wrap (y2 + 1)))] [Ob.box 38 [int .i64 y3, int .i64 y4, sl y5 y6, sl y7 y8, sl y9 y10, sl y11 y12, int .i64 y13, bool y14,
 sl y15 y16, int .i64 y17] false])) else must (inB (i64.wrap (y1 - 1)) y15) (must (decide ((i64.wrap (y1 - 1)).toNat * 1 < y16.length)) (asSl y16[(i64.wrap (y1 - 1)).toNat *
 1]? fun x5 x6 => need (O.R 0 37 [sl x5 x6, sl y5 y6]) fun x7 => asTup (some x7) fun x8 => PI.asBool x8[0]? fun x9 => bif !x9 then some (tup [int .i64 1]) else some (tup [int .i64 0])))
theorem E34l1 (y1 y2 y3 y4 y5 y6 y7 y8 y9 y10 y11 y12 y13 y14 y15 y16 y17) {r : V} (h : T34l1 (orcE C) 0 y1 y2 y3 y4 y5 y6 y7 y8 y9 y10 y11 y12 y13 y14 y15 y16 y17 = some r) : loopE C 34 0 [true, true, true, true, true, true, true, true,
 false, true] [] [(1, ptr 0 0), (5, int .i64 y1), (6, int .i64 y2)] [Ob.box 38 [int .i64 y3, int .i64 y4, sl y5 y6, sl y7 y8, sl y9 y10, sl y11 y12, int .i64 y13, bool y14, sl
 y15 y16, int .i64 y17] false] = some r := ofL (j := 0) (F := fun s => T34l1 (orc C s.k) s.m y1 y2 y3 y4 y5 y6 y7 y8 y9 y10 y11 y12 y13 y14 y15 y16 y17) (fs0 fun _ _ => by kernel_rfl) (by
  unfold T34l1
  repeat' first | (with_reducible first | exact cC | refine cN cR fun _ => ?_ | refine cT fun _ => ?_ | refine cM ?_ | refine cF ?_ ?_ | refine cB fun _ => ?_ | refine cL fun _ _ => ?_ | refine cN cC fun _ => ?_ | exact cR) | exact cD0 gM) h
def T38 (O : Orc) (y1 y2 : Int) (y3 : Nat) (y4 : List V) (y5 : Nat) (y6 : List V) (y7 : Nat) (y8 : List V) : Option V := need (O.R 0 71 [agg [int .i64 y1,
 int .i64 y2, sl y3 y4, sl y5 y6, sl y7 y8]]) fun x1 => asTup (some x1) fun x2 => PI.asInt .i64 x2[0]? fun x3 => bif x3 != 0 then some (tup [sl 0 []]) else need (O.R 0 79 [int .i64 y1])
 fun x4 => asTup (some x4) fun x5 => asSl x5[0]? fun x6 x7 => need (O.R 0 79 [int .i64 y2]) fun x8 => asTup (some x8) fun x9 => asSl x9[0]? fun x10 x11 => need (O.R 0 78 [sl 5 [sl x6 x7, sl x10
 x11, sl y3 y4, sl y5 y6, sl y7 y8]]) fun x12 => asTup (some x12) fun x13 => asOsl x13[0]? fun x14 x15 => need (O.R 0 77 [str { data := #[(98 : UInt8), (102 : UInt8), (116 : UInt8)] }, sl x14
 x15]) fun x16 => asTup (some x16) fun x17 => asOsl x17[0]? fun x18 x19 => some (tup [sl x18 x19])
theorem E38 (y1 y2 y3 y4 y5 y6 y7 y8) {r : V} (h : T38 (orcE C) y1 y2 y3 y4 y5 y6 y7 y8 = some r) : runE C 38 [agg
 [int .i64 y1, int .i64 y2, sl y3 y4, sl y5 y6, sl y7 y8]] = some r := ofR (j := 1) (F := fun s => T38 (orc C s.k) y1 y2 y3 y4 y5 y6 y7 y8) (fun _ => by kernel_rfl) (by
  unfold T38
  repeat' first | (with_reducible first | exact cC | refine cN cR fun _ => ?_ | refine cT fun _ => ?_ | refine cI fun _ => ?_ | refine cF ?_ ?_ | refine cL fun _ _ => ?_ | refine cO fun _ _ => ?_ | refine cN cC fun _ => ?_ | exact cR)) h
def T36l1 (O : Orc) (m : Nat) (y1 : Nat) (y2 : List V) (y3 : Nat) (y4 : List V) (y5 y6 y7 : Int) (y8 : Nat) (y9 : List V) (y10 : Nat) (y11 : List V) (y12 : Nat) (y13 : List V) (y14 : Nat) (y15 : List V) : Option V := bif decide (y5 < (↑y14 : Int)) then must (inB y5 y14) (PI.asInt .i64 y15[y5.toNat * 6]? fun x1 => PI.asInt .i64 y15[y5.toNat * 6 + 1]? fun x2 =>
 asSl y15[y5.toNat * 6 + 1 + 1]? fun x3 x4 => PI.asInt .i64 y15[y5.toNat * 6 + 1 + 1 + 1]? fun x5 => PI.asInt .i64 y15[y5.toNat * 6 + 1 + 1 + 1 + 1]? fun x6 => asSl y15[y5.toNat * 6 + 1 + 1 + 1 + 1 +
 1]? fun x7 x8 => need (O.R 0 74 [int .i64 x1, int .i64 0, int .i64 (i64.wrap ((↑y1 : Int) - 1))]) fun x9 => asTup (some x9) fun x10 => PI.asBool x10[0]? fun x11 => bif !x11 then some
 (tup [int .i64 3]) else bif decide (y5 > 0) then must (inB (i64.wrap (y5 - 1)) y14) (PI.asInt .i64 y15[(i64.wrap (y5 - 1)).toNat * 6 + 0]? fun x12 => bif decide (x1 ≤ x12) then
 some (tup [int .i64 3]) else must (inB x1 y1) (must (decide (x1.toNat * 2 + 0 < y2.length)) (asSl y2[x1.toNat * 2 + 0]? fun x13 x14 => need (O.R 0 75 [sl x13 x14, sl y3 y4, agg [int .i64
 x2, sl x3 x4, int .i64 x5, int .i64 x6, sl x7 x8]]) fun x15 => asTup (some x15) fun x16 => PI.asBool x16[0]? fun x17 => bif !x17 then some (tup [int .i64 6]) else O.L 0 36 0 [true, true,
 true, true, true, true, false, true] [] m [(0, sl y1 y2), (3, ptr 0 0), (7, sl y3 y4), (8, int .i64 (i64.wrap (y5 + 1)))] [Ob.box 46 [int .i64 y6, int .i64 y7, sl y8 y9, sl y10
 y11, sl y12 y13, sl y14 y15] false]))) else must (inB x1 y1) (must (decide (x1.toNat * 2 + 0 < y2.length)) (asSl y2[x1.toNat * 2 + 0]? fun x18 x19 => need (O.R 0 75 [sl x18 x19, sl y3 y4,
 agg [int .i64 x2, sl x3 x4, int .i64 x5, int .i64 x6, sl x7 x8]]) fun x20 => asTup (some x20) fun x21 => PI.asBool x21[0]? fun x22 => bif !x22 then some (tup [int .i64 6]) else O.L 0
 36 0 [true, true, true, true, true, true, false, true] [] m [(0, sl y1 y2), (3, ptr 0 0), (7, sl y3 y4), (8, int .i64 (i64.wrap (y5 + 1)))] [Ob.box 46 [int .i64 y6, int .i64 y7,
 sl y8 y9, sl y10 y11, sl y12 y13, sl y14 y15] false]))) else some (tup [int .i64 0])
theorem E36l1 (y1 y2 y3 y4 y5 y6 y7 y8 y9 y10 y11 y12 y13 y14 y15) {r : V} (h : T36l1 (orcE C) 0 y1 y2 y3 y4 y5 y6 y7 y8 y9 y10 y11 y12 y13 y14 y15 = some r) : loopE C 36 0 [true, true, true, true, true, true, false, true] [] [(0, sl y1 y2), (3, ptr 0
 0), (7, sl y3 y4), (8, int .i64 y5)] [Ob.box 46 [int .i64 y6, int .i64 y7, sl y8 y9, sl y10 y11, sl y12 y13, sl y14 y15] false] = some r := ofL (j := 0) (F := fun s => T36l1 (orc C
 s.k) s.m y1 y2 y3 y4 y5 y6 y7 y8 y9 y10 y11 y12 y13 y14 y15) (fs0 fun _ _ => by kernel_rfl) (by
  unfold T36l1
  repeat' first | (with_reducible first | exact cC | refine cN cR fun _ => ?_ | refine cT fun _ => ?_ | refine cI fun _ => ?_ | refine cM ?_ | refine cF ?_ ?_ | refine cB fun _ => ?_ | refine cL fun _ _ => ?_ | refine cN cC fun _ => ?_ | exact cR) | exact cD0 gM) h
def T80 (O : Orc) (k : Nat) (y1 : Nat) (y2 : List V) (y3 y4 : Int) (y5 : Nat) (y6 : List V) (y7 : Nat) (y8 : List V) (y9 : Nat) (y10 : List V) (y11 : Nat) (y12 : List V) :
 Option V := O.L 0 80 0 [true, true, false, true] [] k [(0, sl y1 y2), (3, ptr 0 0), (5, int .i64 0), (6, int .i64 0)] [Ob.box 46 [int .i64 y3, int .i64 y4, sl y5 y6, sl y7 y8, sl y9
 y10, sl y11 y12] false]
theorem E80 (y1 y2 y3 y4 y5 y6 y7 y8 y9 y10 y11 y12) {r : V} (h : T80 (orcE C) 0 y1 y2
 y3 y4 y5 y6 y7 y8 y9 y10 y11 y12 = some r) : runE C 80 [sl y1 y2, agg [int .i64 y3, int .i64 y4, sl y5 y6, sl y7 y8, sl y9 y10, sl y11 y12]] = some r := ofR (j := 1) (F := fun s => T80 (orc C s.k) s.k y1 y2 y3 y4 y5 y6 y7 y8 y9 y10 y11 y12) (fun _ => by kernel_rfl) (by
  unfold T80
  repeat' first | with_reducible exact cC | exact cD0 gK) h
def T81 (O : Orc) (k : Nat) (y1 : Nat) (y2 : List V) : Option V := O.L 0 81 0 [true, true, false, true] [] k [(0, sl y1 y2), (3, int .i64 0), (4, int .i64 0)] []
theorem E81 (y1 y2) {r : V} (h : T81 (orcE C) 0 y1 y2 = some r) : runE C 81 [sl y1 y2] = some r := ofR (j := 1) (F := fun s => T81 (orc C s.k) s.k y1 y2) (fun _ => by
 kernel_rfl) (by
  unfold T81
  repeat' first | with_reducible exact cC | exact cD0 gK) h
def T41 (O : Orc) (y1 y2 : Int) (y3 : Nat) (y4 : List V) (y5 : Nat) (y6 : List V) (y7 : Nat) (y8 : List V) (y9 : Nat) (y10 : List V) (y11 : Int) (y12 : Bool) (y13 : Nat) (y14 : List V) (y15 : Int) : Option V := need (O.R 0 83 [agg [int .i64 y1, int .i64 y2, sl y3 y4, sl y5 y6, sl y7 y8]]) fun x1 => asTup (some x1) fun x2 => PI.asInt .i64 x2[0]?
 fun x3 => PI.asInt .i64 x2[1]? fun x4 => asOsl x2[2]? fun x5 x6 => asOsl x2[3]? fun x7 x8 => asOsl x2[4]? fun x9 x10 => need (O.R 0 84 [sl y9 y10]) fun x11 => asTup (some x11) fun x12 => asOsl
 x12[0]? fun x13 x14 => need (O.R 0 85 [sl y13 y14]) fun x15 => asTup (some x15) fun x16 => asOsl x16[0]? fun x17 x18 => must (false || x6.all flatV) (must (false || x8.all flatV) (must (false ||
 x10.all flatV) (some (tup [int .i64 x3, int .i64 x4, osl x5 x6, osl x7 x8, osl x9 x10, osl x13 x14, int .i64 y11, bool y12, osl x17 x18, int .i64 y15]))))
theorem E41 (y1 y2 y3 y4 y5 y6 y7 y8 y9 y10 y11 y12 y13 y14 y15) {r
 : V} (h : T41 (orcE C) y1 y2 y3 y4 y5 y6 y7 y8 y9 y10 y11 y12 y13 y14 y15 = some r) : runE C 41 [agg [int .i64 y1, int .i64 y2, sl y3 y4, sl y5 y6, sl y7 y8, sl y9 y10, int
 .i64 y11, bool y12, sl y13 y14, int .i64 y15]] = some r := ofR (j := 1) (F := fun s => T41 (orc C s.k) y1 y2 y3 y4 y5 y6 y7 y8 y9 y10 y11 y12 y13 y14 y15) (fun _ => by kernel_rfl) (by
  unfold T41
  repeat' first | (with_reducible first | exact cC | refine cN cR fun _ => ?_ | refine cT fun _ => ?_ | refine cI fun _ => ?_ | refine cM ?_ | refine cO fun _ _ => ?_ | refine cN cC fun _ => ?_ | exact cR)) h
def T109l1 (O : Orc) (m : Nat) (y1 : Nat) (y2 : List V) (y3 y4 : Int) (y5 : Nat) (y6 : List V) (y7 : Nat) (y8 : List V) (y9 : Nat) (y10 : List V) (y11 : Nat) (y12 : List
 V) (y13 y14 y15 y16 : Int) (y17 : Bool) (y18 : Int) (y19 : Nat) (y20 : List V) (y21 : Nat) (y22 : List V) (y23 : Nat) (y24 : List V) (y25 : Nat) (y26 : List V) (y27 : Nat) (y28
 : List V) (y29 : Int) (y30 : Int) (y31 : Int) (y32 : Bool) (y33 : Int) (y34 : Nat) (y35 : List V) (y36 : Nat) (y37 : List V) (y38 : Nat) (y39 : List V) (y40 : Nat) (y41 : List V) (y42 : Nat) (y43 :
 List V) : Option V := bif decide ((↑y42 : Int) > 24) then must (true && decide (1 ≤ (↑y42 : Int))) (O.L 0 109 0 [true, true, true, true, true, true, true, false] [] m [(2, sl y1 y2), (4, ptr 0 0),
 (6, ptr 1 0), (8, ptr 7 0)] [Ob.box 46 [int .i64 y3, int .i64 y4, sl y5 y6, sl y7 y8, sl y9 y10, sl y11 y12] false, Ob.box 40 [int .i64 y13, int .i64 y14, int .i64 y15, ref 2,
 ref 3, ref 4, ref 5, int .i64 y16, bool y17, ref 6, int .i64 y18] false, Ob.row 5 y19 y20 false, Ob.row 5 y21 y22 false, Ob.row 5 y23 y24 false, Ob.row 78 y25 y26 false, Ob.nrow [] 22
 y27 y28, Ob.box 38 [int .i64 y29, int .i64 y30, ref 8, ref 9, ref 10, ref 11, int .i64 y31, bool y32, sl (y42 - 1) (List.take ((y42 - 1) * 1) (List.drop 1 y43)), int .i64
 (i64.wrap (y33 + 1))] false, Ob.row 5 y34 y35 false, Ob.row 5 y36 y37 false, Ob.row 5 y38 y39 false, Ob.row 78 y40 y41 false]) else need (O.R 0 83 [agg [int .i64 y3, int .i64 y4, sl y5
 y6, sl y7 y8, sl y9 y10]]) fun x1 => asTup (some x1) fun x2 => PI.asInt .i64 x2[0]? fun x3 => PI.asInt .i64 x2[1]? fun x4 => asOsl x2[2]? fun x5 x6 => asOsl x2[3]? fun x7 x8 => asOsl x2[4]? fun x9
 x10 => need (O.R 0 84 [sl y1 y2]) fun x11 => asTup (some x11) fun x12 => asOsl x12[0]? fun x13 x14 => some (tup [int .i64 0, int .i64 x3, int .i64 x4, sl x5 x6, sl x7 x8, sl x9 x10,
 sl x13 x14, int .i64 y31, bool y32, sl y42 y43, int .i64 y33])
theorem E109l1 (y1 y2 y3 y4 y5 y6 y7 y8 y9 y10 y11 y12 y13 y14 y15 y16 y17 y18 y19 y20 y21 y22 y23 y24 y25 y26 y27 y28 y29 y30) (y31
 : Int) (y32 : Bool) (y33 : Int) (y34 : Nat) (y35 : List V) (y36 : Nat) (y37 : List V) (y38 : Nat) (y39 : List V) (y40 : Nat) (y41 : List V) (y42 : Nat) (y43 : List V) {r : V} (h : T109l1 (orcE C) 0 y1 y2 y3 y4 y5 y6 y7 y8 y9 y10 y11 y12 y13 y14 y15 y16 y17 y18 y19 y20 y21 y22 y23 y24 y25 y26 y27 y28 y29 y30 y31 y32 y33 y34 y35 y36 y37 y38 y39 y40 y41 y42 y43 = some r) : loopE C 109 0 [true,
 true, true, true, true, true, true, false] [] [(2, sl y1 y2), (4, ptr 0 0), (6, ptr 1 0), (8, ptr 7 0)] [Ob.box 46 [int .i64 y3, int .i64 y4, sl y5 y6, sl y7 y8, sl y9 y10, sl y11
 y12] false, Ob.box 40 [int .i64 y13, int .i64 y14, int .i64 y15, ref 2, ref 3, ref 4, ref 5, int .i64 y16, bool y17, ref 6, int .i64 y18] false, Ob.row 5 y19 y20 false, Ob.row 5
 y21 y22 false, Ob.row 5 y23 y24 false, Ob.row 78 y25 y26 false, Ob.nrow [] 22 y27 y28, Ob.box 38 [int .i64 y29, int .i64 y30, ref 8, ref 9, ref 10, ref 11, int .i64 y31, bool y32,
 ref 12, int .i64 y33] false, Ob.row 5 y34 y35 false, Ob.row 5 y36 y37 false, Ob.row 5 y38 y39 false, Ob.row 78 y40 y41 false, Ob.row 22 y42 y43 false] = some r := ofL (j := 0) (F := fun s =>
 T109l1 (orc C s.k) s.m y1 y2 y3 y4 y5 y6 y7 y8 y9 y10 y11 y12 y13 y14 y15 y16 y17 y18 y19 y20 y21 y22 y23 y24 y25 y26 y27 y28 y29 y30 y31 y32 y33 y34 y35 y36 y37 y38 y39 y40 y41 y42 y43) (fs0
 fun _ _ => by kernel_rfl) (by
  unfold T109l1
  repeat' first | (with_reducible first | exact cC | refine cN cR fun _ => ?_ | refine cT fun _ => ?_ | refine cI fun _ => ?_ | refine cM ?_ | refine cF ?_ ?_ | refine cO fun _ _ => ?_ | refine cN cC fun _ => ?_ | exact cR) | exact cD0 gM) h
def T91 (O : Orc) (y1 y2 y3 : Int) : Option V := bif decide (y2 ≤ y1) then some (tup [bool (decide (y1 ≤ y3))]) else some (tup [bool false])
theorem E91 (y1 y2 y3) {r : V} (h : T91 (orcE C) y1 y2 y3 = some r) : runE C 91 [int .i64 y1, int .i64 y2, int .i64 y3] = some r := ofR (j := 1) (F := fun s => T91 (orc C s.k) y1 y2 y3) (fun _ => by kernel_rfl) (by
  unfold T91
  repeat' first | (with_reducible first | exact cC | refine cF ?_ ?_)) h
def T92 (O : Orc) (y1 : Nat) (y2 : List V) : Option V := need (O.R 0 121 [sl y1 y2, fn 93 []]) fun x1 => asTup (some x1) fun x2 => PI.asInt .i64 x2[0]? fun x3 =>
 some (tup [bool (decide (x3 ≥ 0))])
theorem E92 (y1 y2) {r : V} (h : T92 (orcE C) y1 y2 = some r) : runE C 92 [sl y1 y2, fn 93 []] = some r := ofR (j := 1) (F := fun s => T92 (orc C s.k) y1 y2)
 (fun _ => by kernel_rfl) (by
  unfold T92
  repeat' first | (with_reducible first | exact cC | refine cN cR fun _ => ?_ | refine cT fun _ => ?_ | refine cI fun _ => ?_ | refine cN cC fun _ => ?_ | exact cR)) h
def T89l1 (O : Orc) (m : Nat) (y1 : Nat) (y2 : List V) (y3 : Nat) (y4 : List V) (y5 y6 : Int) : Option V := bif decide (y6 < y5) then must (inB y6 y3) (asSl y4[y6.toNat *
 2]? fun x1 x2 => PI.asInt .i64 y4[y6.toNat * 2 + 1]? fun x3 => need (O.R 0 94 [sl x1 x2]) fun x4 => asTup (some x4) fun x5 => PI.asBool x5[0]? fun x6 => bif !x6 then some (tup [int .i64 1]) else
 need (O.R 0 91 [int .i64 x3, int .i64 1, int .i64 1000]) fun x7 => asTup (some x7) fun x8 => PI.asBool x8[0]? fun x9 => bif !x9 then some (tup [int .i64 3]) else must (decide (0 ≤ y6) &&
 decide (y6 ≤ (↑y1 : Int))) (need (O.R 0 120 [sl (y6.toNat - 0) (List.take ((y6.toNat - 0) * 2) (List.drop 0 y2)), sl x1 x2]) fun x10 => asTup (some x10) fun x11 => PI.asInt .i64 x11[0]? fun x12 =>
 bif decide (x12 ≥ 0) then some (tup [int .i64 7]) else O.L 0 89 1 [true, true, false, true] [] m [(0, sl y1 y2), (13, sl y3 y4), (14, int .i64 y5), (15, int .i64 (i64.wrap (y6 +
 1)))] [])) else some (tup [int .i64 0])
theorem E89l1 (y1 y2 y3 y4 y5 y6) {r : V} (h : T89l1 (orcE C) 0 y1 y2 y3 y4 y5 y6 = some r) : loopE C 89 1 [true, true, false, true] [] [(0,
 sl y1 y2), (13, sl y3 y4), (14, int .i64 y5), (15, int .i64 y6)] [] = some r := ofL (j := 0) (F := fun s => T89l1 (orc C s.k) s.m y1 y2 y3 y4 y5 y6) (fs0 fun _ _ => by kernel_rfl) (by
  unfold T89l1
  repeat' first | (with_reducible first | exact cC | refine cN cR fun _ => ?_ | refine cT fun _ => ?_ | refine cI fun _ => ?_ | refine cM ?_ | refine cF ?_ ?_ | refine cB fun _ => ?_ | refine cL fun _ _ => ?_ | refine cN cC fun _ => ?_ | exact cR) | exact cD0 gM) h
def T119 (O : Orc) (y1 : Nat) (y2 : List V) : Option V := need (O.R 0 92 [sl y1 y2, fn 143 []]) fun x1 => asTup (some x1) fun x2 => PI.asBool x2[0]? fun x3 => some
 (tup [bool !x3])
theorem E119 (y1 y2) {r : V} (h : T119 (orcE C) y1 y2 = some r) : runE C 119 [sl y1 y2] = some r := ofR (j := 1) (F := fun s => T119 (orc C s.k) y1 y2) (fun _ =>
 by kernel_rfl) (by
  unfold T119
  repeat' first | (with_reducible first | exact cC | refine cN cR fun _ => ?_ | refine cT fun _ => ?_ | refine cB fun _ => ?_ | refine cN cC fun _ => ?_ | exact cR)) h
def T90l1 (O : Orc) (m : Nat) (y1 : Nat) (y2 : List V) (y3 y4 : Int) (y5 : Nat) (y6 : List V) : Option V := bif decide (y4 < y3) then must (inB y4 y1) (asSl y2[y4.toNat *
 2]? fun x1 x2 => PI.asInt .i64 y2[y4.toNat * 2 + 1]? fun x3 => need (O.R 0 98 [int .i64 x3]) fun x4 => asTup (some x4) fun x5 => asSl x5[0]? fun x6 x7 => must (true && (y5 + 2).ble 140737488355328
 && ((y5 + 2) * 24).ble 140737488355328) (O.L 0 90 0 [true, true, false, true] [] m [(3, ref 0), (7, sl y1 y2), (8, int .i64 y3), (9, int .i64 (i64.wrap (y4 + 1)))] [Ob.row 22 (y5 + 2)
 (y6 ++ [sl x1 x2, sl x6 x7]) false])) else need (O.R 0 97 [sl y5 y6]) fun x8 => asTup (some x8) fun x9 => asSl x9[0]? fun x10 x11 => need (O.R 0 96 [str { data := #[(115 : UInt8), (101 :
 UInt8), (116 : UInt8)] }, sl 1 [sl x10 x11]]) fun x12 => asTup (some x12) fun x13 => asOsl x13[0]? fun x14 x15 => some (tup [sl x14 x15])
theorem E90l1 (y1 y2 y3 y4 y5 y6) {r : V} (h : T90l1 (orcE C) 0 y1 y2 y3 y4 y5 y6 = some r) : loopE C 90 0 [true, true, false, true] [] [(3,
 ref 0), (7, sl y1 y2), (8, int .i64 y3), (9, int .i64 y4)] [Ob.row 22 y5 y6 false] = some r := ofL (j := 0) (F := fun s => T90l1 (orc C s.k) s.m y1 y2 y3 y4 y5 y6) (fs0 fun _ _ => by
 kernel_rfl) (by
  unfold T90l1
  repeat' first | (with_reducible first | exact cC | refine cN cR fun _ => ?_ | refine cT fun _ => ?_ | refine cI fun _ => ?_ | refine cM ?_ | refine cF ?_ ?_ | refine cL fun _ _ => ?_ | refine cO fun _ _ => ?_ | refine cN cC fun _ => ?_ | exact cR) | exact cD0 gM) h
def T98 (O : Orc) (k : Nat) (y1 : Int) : Option V := O.L 0 98 0 [true, true, false, true] [] k [(0, int .i64 y1), (3, ref 0), (4, int .i64 6)] [Ob.row 5 7 [int .u8 0,
 int .u8 0, int .u8 0, int .u8 0, int .u8 0, int .u8 0, int .u8 0] false]
theorem E98 (y1) {r : V} (h : T98 (orcE C) 0 y1 = some r) : runE C 98 [int .i64 y1] = some r := ofR (j := 1) (F := fun s => T98 (orc C s.k) s.k y1) (fun _ => by kernel_rfl) (by
  unfold T98
  repeat' first | with_reducible exact cC | exact cD0 gK) h
end Go.Proofs.YtgbpimaidhhnjaaGreat.EqX
