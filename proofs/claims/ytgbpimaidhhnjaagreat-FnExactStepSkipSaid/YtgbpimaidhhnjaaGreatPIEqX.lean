/-
  The functions of a table, as the interpreter tells them. Printed by a program.
-/
import Derived.Test.YtgbpimaidhhnjaaGreatPIEqXx
noncomputable section
namespace Go.Proofs.YtgbpimaidhhnjaaGreat.EqX
open Go Go.PI V IntKind
set_option maxRecDepth 100000
set_option maxHeartbeats 4000000
set_option linter.unusedVariables false
set_option linter.unusedSimpArgs false
def T97 (O : Orc) (y1 : Nat) (y2 : List V) : Option V := need (O.R 0 127 [sl y1 y2]) fun x1 => asTup (some x1) fun x2 => asSl x2[0]? fun x3 x4 => PI.asBool x2[1]? fun
 x5 => some (tup [sl x3 x4])
theorem E97 (y1 y2) {r : V} (h : T97 (orcE C) y1 y2 = some r) : runE C 97 [sl y1 y2] = some r := ofR (j := 1) (F := fun s => T97 (orc C s.k) y1 y2) (fun _ => by
 kernel_rfl) (by
  unfold T97
  repeat' first | (with_reducible first | exact cC | refine cN cR fun _ => ?_ | refine cT fun _ => ?_ | refine cB fun _ => ?_ | refine cL fun _ _ => ?_ | refine cN cC fun _ => ?_ | exact cR)) h
def T96 (O : Orc) (y1 : ByteArray) (y2 : Nat) (y3 : List V) : Option V := must (y1.size.ble 140737488355328) (must (decide (y3.length = y2 * 1)) (must (true && (2 +
 y2).ble 140737488355328 && ((2 + y2) * 24).ble 140737488355328) (need (O.R 0 126 [sl (2 + y2) (sl 1 [int .u8 (u8.wrap (↑y1.size : Int))] :: sl y1.size (bytesV y1.data.toList) :: y3)])
 fun x1 => asTup (some x1) fun x2 => asOsl x2[0]? fun x3 x4 => must (false || x4.all flatV) (some (tup [osl x3 x4])))))
theorem E96 (y1 y2 y3) {r : V} (h : T96 (orcE C) y1 y2 y3 = some r) : runE C 96 [str y1, sl y2 y3] = some r := ofR (j := 1) (F := fun s => T96 (orc C s.k) y1 y2 y3) (fun _ => by kernel_rfl) (by
  unfold T96
  repeat' first | (with_reducible first | exact cC | refine cN cR fun _ => ?_ | refine cT fun _ => ?_ | refine cM ?_ | refine cO fun _ _ => ?_ | refine cN cC fun _ => ?_ | exact cR)) h
def T95 (O : Orc) (k : Nat) (y1 : Nat) (y2 : List V) (y3 : Nat) (y4 : List V) (y5 : Int) (y6 : Nat) (y7 : List V) (y8 y9 : Int) (y10 : Nat) (y11 : List V) : Option V :=
 need (O.R 0 122 [agg [int .i64 y5, sl y6 y7, int .i64 y8, int .i64 y9, sl y10 y11]]) fun x1 => asTup (some x1) fun x2 => PI.asBool x2[0]? fun x3 => bif !x3 then some (tup [bool false])
 else need (O.R 0 119 [sl y6 y7]) fun x4 => asTup (some x4) fun x5 => PI.asBool x5[0]? fun x6 => bif !x6 then some (tup [bool false]) else need (O.R 0 123 [sl y3 y4]) fun x7 => asTup (some x7)
 fun x8 => asOsl x8[0]? fun x9 x10 => O.L 0 95 0 [true, true, true, false, true] [] k [(0, sl y1 y2), (5, ptr 0 0), (7, ref 1), (21, ref 2), (22, int .i64 (↑x9 : Int)), (23, int .i64 0)]
 [Ob.box 108 [int .i64 y5, sl y6 y7, int .i64 y8, int .i64 y9, sl y10 y11] false, Ob.row 5 0 [] false, Ob.row 2 x9 x10 false]
theorem E95 (y1 y2 y3 y4 y5 y6 y7 y8 y9 y10 y11) {r : V} (h : T95 (orcE C) 0 y1 y2 y3 y4 y5 y6 y7
 y8 y9 y10 y11 = some r) : runE C 95 [sl y1 y2, sl y3 y4, agg [int .i64 y5, sl y6 y7, int .i64 y8, int .i64 y9, sl y10 y11]] = some r := ofR (j := 1) (F := fun s => T95 (orc C s.k) s.k y1 y2 y3 y4 y5 y6 y7 y8 y9 y10 y11) (fun _ => by kernel_rfl) (by
  unfold T95
  repeat' first | (with_reducible first | exact cC | refine cN cR fun _ => ?_ | refine cT fun _ => ?_ | refine cF ?_ ?_ | refine cB fun _ => ?_ | refine cO fun _ _ => ?_ | refine cN cC fun _ => ?_ | exact cR) | exact cD0 gK) h
def T110l1 (O : Orc) (m : Nat) (y1 : Nat) (y2 : List V) (y3 : Int) (y4 : Nat) (y5 : List V) (y6 y7 : Int) : Option V := bif decide (y7 < y6) then must (inB y7 y4)
 (PI.asInt .i64 y5[y7.toNat * 6]? fun x1 => PI.asInt .i64 y5[y7.toNat * 6 + 1]? fun x2 => asSl y5[y7.toNat * 6 + 1 + 1]? fun x3 x4 => PI.asInt .i64 y5[y7.toNat * 6 + 1 + 1 + 1]? fun x5 => PI.asInt .i64
 y5[y7.toNat * 6 + 1 + 1 + 1 + 1]? fun x6 => asSl y5[y7.toNat * 6 + 1 + 1 + 1 + 1 + 1]? fun x7 x8 => must (inB x1 y1) (PI.asInt .i64 y2[x1.toNat * 2 + 1]? fun x9 => O.L 0 110 0 [true, true, false,
 true] [] m [(0, sl y1 y2), (5, int .i64 (i64.wrap (y3 + x9))), (9, sl y4 y5), (10, int .i64 y6), (11, int .i64 (i64.wrap (y7 + 1)))] [])) else some (tup [int .i64 y3])
theorem E110l1 (y1 y2 y3 y4 y5 y6 y7) {r : V} (h : T110l1 (orcE C) 0 y1 y2 y3 y4 y5 y6 y7 = some r) : loopE C 110 0 [true, true, false,
 true] [] [(0, sl y1 y2), (5, int .i64 y3), (9, sl y4 y5), (10, int .i64 y6), (11, int .i64 y7)] [] = some r := ofL (j := 0) (F := fun s => T110l1 (orc C s.k) s.m y1 y2 y3 y4 y5 y6
 y7) (fs0 fun _ _ => by kernel_rfl) (by
  unfold T110l1
  repeat' first | (with_reducible first | exact cC | refine cI fun _ => ?_ | refine cM ?_ | refine cF ?_ ?_ | refine cL fun _ _ => ?_) | exact cD0 gM) h
def T100l1 (O : Orc) (m : Nat) (y1 : Int) (y2 : Nat) (y3 : List V) (y4 y5 : Int) : Option V := bif decide (y5 < y4) then must (inB y5 y2) (asSl y3[y5.toNat * 2]? fun x1 x2
 => PI.asInt .i64 y3[y5.toNat * 2 + 1]? fun x3 => O.L 0 100 0 [true, true, false, true] [] m [(3, int .i64 (i64.wrap (y1 + x3))), (6, sl y2 y3), (7, int .i64 y4), (8, int .i64
 (i64.wrap (y5 + 1)))] []) else some (tup [int .i64 y1])
theorem E100l1 (y1 y2 y3 y4 y5) {r : V} (h : T100l1 (orcE C) 0 y1 y2 y3 y4 y5 = some r) : loopE C 100 0 [true, true, false, true] [] [(3, int .i64 y1),
 (6, sl y2 y3), (7, int .i64 y4), (8, int .i64 y5)] [] = some r := ofL (j := 0) (F := fun s => T100l1 (orc C s.k) s.m y1 y2 y3 y4 y5) (fs0 fun _ _ => by kernel_rfl) (by
  unfold T100l1
  repeat' first | (with_reducible first | exact cC | refine cI fun _ => ?_ | refine cM ?_ | refine cF ?_ ?_ | refine cL fun _ _ => ?_) | exact cD0 gM) h
def T52 (O : Orc) (y1 y2 : Int) (y3 : Nat) (y4 : List V) (y5 : Nat) (y6 : List V) (y7 : Nat) (y8 : List V) (y9 : Nat) (y10 : List V) (y11 : Int) (y12 : Bool) (y13 : Nat) (y14 : List V) (y15 : Int) : Option V := both (both (need (O.R 0 101 [agg [int .i64 y1, int .i64 y2, sl y3 y4, sl y5 y6, sl y7 y8]]) fun x1 => asTup (some x1) fun x2 =>
 PI.asInt .i64 x2[0]? fun x3 => PI.asInt .i64 x2[1]? fun x4 => asOsl x2[2]? fun x5 x6 => asOsl x2[3]? fun x7 x8 => asOsl x2[4]? fun x9 x10 => both (both (need (O.R 0 102 [sl y9 y10]) fun x11 => asTup
 (some x11) fun x12 => asOsl x12[0]? fun x13 x14 => need (O.R 0 103 [sl y13 y14]) fun x15 => asTup (some x15) fun x16 => asOsl x16[0]? fun x17 x18 => must (false || x6.all flatV) (must (false ||
 x8.all flatV) (must (false || x10.all flatV) (some (tup [int .i64 x3, int .i64 x4, osl x5 x6, osl x7 x8, osl x9 x10, osl x13 x14, int .i64 y11, bool y12, osl x17 x18, int .i64
 y15]))))) (need (O.R 0 102 [sl y9 y10]) fun x19 => asTup (some x19) fun x20 => asOsl x20[0]? fun x21 x22 => need (O.R 0 103 [sl y13 y14]) fun x23 => asTup (some x23) fun x24 => asOsl x24[0]? fun
 x25 x26 => must (false || x6.all flatV) (must (false || x8.all flatV) (must (false || x10.all flatV) (some (tup [int .i64 x3, int .i64 x4, osl x5 x6, osl x7 x8, osl x9 x10, osl x21 x22,
 int .i64 y11, bool y12, osl x25 x26, int .i64 y15])))))) (need (O.R 0 102 [sl y9 y10]) fun x27 => asTup (some x27) fun x28 => asOsl x28[0]? fun x29 x30 => need (O.R 0 103 [sl y13 y14]) fun
 x31 => asTup (some x31) fun x32 => asOsl x32[0]? fun x33 x34 => must (false || x6.all flatV) (must (false || x8.all flatV) (must (false || x10.all flatV) (some (tup [int .i64 x3, int .i64 x4,
 osl x5 x6, osl x7 x8, osl x9 x10, osl x29 x30, int .i64 y11, bool y12, osl x33 x34, int .i64 y15])))))) (both (both (need (O.R 0 101 [agg [int .i64 y1, int .i64 y2, sl y3 y4,
 sl y5 y6, sl y7 y8]]) fun x35 => asTup (some x35) fun x36 => PI.asInt .i64 x36[0]? fun x37 => PI.asInt .i64 x36[1]? fun x38 => asOsl x36[2]? fun x39 x40 => asOsl x36[3]? fun x41 x42 => asOsl
 x36[4]? fun x43 x44 => both (need (O.R 0 102 [sl y9 y10]) fun x45 => asTup (some x45) fun x46 => asOsl x46[0]? fun x47 x48 => need (O.R 0 103 [sl y13 y14]) fun x49 => asTup (some x49) fun x50 =>
 asOsl x50[0]? fun x51 x52 => must (false || x40.all flatV) (must (false || x42.all flatV) (must (false || x44.all flatV) (some (tup [int .i64 x37, int .i64 x38, osl x39 x40, osl x41 x42,
 osl x43 x44, osl x47 x48, int .i64 y11, bool y12, osl x51 x52, int .i64 y15]))))) (need (O.R 0 102 [sl y9 y10]) fun x53 => asTup (some x53) fun x54 => asOsl x54[0]? fun x55 x56 => need
 (O.R 0 103 [sl y13 y14]) fun x57 => asTup (some x57) fun x58 => asOsl x58[0]? fun x59 x60 => must (false || x40.all flatV) (must (false || x42.all flatV) (must (false || x44.all flatV) (some (tup
 [int .i64 x37, int .i64 x38, osl x39 x40, osl x41 x42, osl x43 x44, osl x55 x56, int .i64 y11, bool y12, osl x59 x60, int .i64 y15])))))) (need (O.R 0 101 [agg [int .i64 y1,
 int .i64 y2, sl y3 y4, sl y5 y6, sl y7 y8]]) fun x61 => asTup (some x61) fun x62 => PI.asInt .i64 x62[0]? fun x63 => PI.asInt .i64 x62[1]? fun x64 => asOsl x62[2]? fun x65 x66 => asOsl x62[3]?
 fun x67 x68 => asOsl x62[4]? fun x69 x70 => need (O.R 0 102 [sl y9 y10]) fun x71 => asTup (some x71) fun x72 => asOsl x72[0]? fun x73 x74 => need (O.R 0 103 [sl y13 y14]) fun x75 => asTup (some
 x75) fun x76 => asOsl x76[0]? fun x77 x78 => must (false || x66.all flatV) (must (false || x68.all flatV) (must (false || x70.all flatV) (some (tup [int .i64 x63, int .i64 x64, osl x65 x66,
 osl x67 x68, osl x69 x70, osl x73 x74, int .i64 y11, bool y12, osl x77 x78, int .i64 y15])))))) (both (need (O.R 0 101 [agg [int .i64 y1, int .i64 y2, sl y3 y4, sl y5 y6, sl
 y7 y8]]) fun x79 => asTup (some x79) fun x80 => PI.asInt .i64 x80[0]? fun x81 => PI.asInt .i64 x80[1]? fun x82 => asOsl x80[2]? fun x83 x84 => asOsl x80[3]? fun x85 x86 => asOsl x80[4]? fun x87 x88 =>
 need (O.R 0 102 [sl y9 y10]) fun x89 => asTup (some x89) fun x90 => asOsl x90[0]? fun x91 x92 => need (O.R 0 103 [sl y13 y14]) fun x93 => asTup (some x93) fun x94 => asOsl x94[0]? fun x95 x96 =>
 must (false || x84.all flatV) (must (false || x86.all flatV) (must (false || x88.all flatV) (some (tup [int .i64 x81, int .i64 x82, osl x83 x84, osl x85 x86, osl x87 x88, osl x91 x92,
 int .i64 y11, bool y12, osl x95 x96, int .i64 y15]))))) (need (O.R 0 101 [agg [int .i64 y1, int .i64 y2, sl y3 y4, sl y5 y6, sl y7 y8]]) fun x97 => asTup (some x97) fun x98 =>
 PI.asInt .i64 x98[0]? fun x99 => PI.asInt .i64 x98[1]? fun x100 => asOsl x98[2]? fun x101 x102 => asOsl x98[3]? fun x103 x104 => asOsl x98[4]? fun x105 x106 => need (O.R 0 102 [sl y9 y10]) fun x107
 => asTup (some x107) fun x108 => asOsl x108[0]? fun x109 x110 => need (O.R 0 103 [sl y13 y14]) fun x111 => asTup (some x111) fun x112 => asOsl x112[0]? fun x113 x114 => must (false || x102.all
 flatV) (must (false || x104.all flatV) (must (false || x106.all flatV) (some (tup [int .i64 x99, int .i64 x100, osl x101 x102, osl x103 x104, osl x105 x106, osl x109 x110, int .i64
 y11, bool y12, osl x113 x114, int .i64 y15])))))))) (both (both (both (need (O.R 0 101 [agg [int .i64 y1, int .i64 y2, sl y3 y4, sl y5 y6, sl y7 y8]]) fun x115 => asTup (some x115)
 fun x116 => PI.asInt .i64 x116[0]? fun x117 => PI.asInt .i64 x116[1]? fun x118 => asOsl x116[2]? fun x119 x120 => asOsl x116[3]? fun x121 x122 => asOsl x116[4]? fun x123 x124 => both (need (O.R 0 102
 [sl y9 y10]) fun x125 => asTup (some x125) fun x126 => asOsl x126[0]? fun x127 x128 => need (O.R 0 103 [sl y13 y14]) fun x129 => asTup (some x129) fun x130 => asOsl x130[0]? fun x131 x132 => must
 (false || x120.all flatV) (must (false || x122.all flatV) (must (false || x124.all flatV) (some (tup [int .i64 x117, int .i64 x118, osl x119 x120, osl x121 x122, osl x123 x124, osl x127
 x128, int .i64 y11, bool y12, osl x131 x132, int .i64 y15]))))) (need (O.R 0 102 [sl y9 y10]) fun x133 => asTup (some x133) fun x134 => asOsl x134[0]? fun x135 x136 => need (O.R 0 103 [sl
 y13 y14]) fun x137 => asTup (some x137) fun x138 => asOsl x138[0]? fun x139 x140 => must (false || x120.all flatV) (must (false || x122.all flatV) (must (false || x124.all flatV) (some (tup [int
 .i64 x117, int .i64 x118, osl x119 x120, osl x121 x122, osl x123 x124, osl x135 x136, int .i64 y11, bool y12, osl x139 x140, int .i64 y15])))))) (need (O.R 0 101 [agg [int .i64
 y1, int .i64 y2, sl y3 y4, sl y5 y6, sl y7 y8]]) fun x141 => asTup (some x141) fun x142 => PI.asInt .i64 x142[0]? fun x143 => PI.asInt .i64 x142[1]? fun x144 => asOsl x142[2]? fun x145 x146 =>
 asOsl x142[3]? fun x147 x148 => asOsl x142[4]? fun x149 x150 => need (O.R 0 102 [sl y9 y10]) fun x151 => asTup (some x151) fun x152 => asOsl x152[0]? fun x153 x154 => need (O.R 0 103 [sl y13 y14])
 fun x155 => asTup (some x155) fun x156 => asOsl x156[0]? fun x157 x158 => must (false || x146.all flatV) (must (false || x148.all flatV) (must (false || x150.all flatV) (some (tup [int .i64 x143,
 int .i64 x144, osl x145 x146, osl x147 x148, osl x149 x150, osl x153 x154, int .i64 y11, bool y12, osl x157 x158, int .i64 y15])))))) (need (O.R 0 101 [agg [int .i64 y1, int
 .i64 y2, sl y3 y4, sl y5 y6, sl y7 y8]]) fun x159 => asTup (some x159) fun x160 => PI.asInt .i64 x160[0]? fun x161 => PI.asInt .i64 x160[1]? fun x162 => asOsl x160[2]? fun x163 x164 => asOsl
 x160[3]? fun x165 x166 => asOsl x160[4]? fun x167 x168 => need (O.R 0 102 [sl y9 y10]) fun x169 => asTup (some x169) fun x170 => asOsl x170[0]? fun x171 x172 => need (O.R 0 103 [sl y13 y14]) fun
 x173 => asTup (some x173) fun x174 => asOsl x174[0]? fun x175 x176 => must (false || x164.all flatV) (must (false || x166.all flatV) (must (false || x168.all flatV) (some (tup [int .i64 x161,
 int .i64 x162, osl x163 x164, osl x165 x166, osl x167 x168, osl x171 x172, int .i64 y11, bool y12, osl x175 x176, int .i64 y15])))))) (both (both (need (O.R 0 101 [agg [int .i64
 y1, int .i64 y2, sl y3 y4, sl y5 y6, sl y7 y8]]) fun x177 => asTup (some x177) fun x178 => PI.asInt .i64 x178[0]? fun x179 => PI.asInt .i64 x178[1]? fun x180 => asOsl x178[2]? fun x181 x182 =>
 asOsl x178[3]? fun x183 x184 => asOsl x178[4]? fun x185 x186 => need (O.R 0 102 [sl y9 y10]) fun x187 => asTup (some x187) fun x188 => asOsl x188[0]? fun x189 x190 => need (O.R 0 103 [sl y13 y14])
 fun x191 => asTup (some x191) fun x192 => asOsl x192[0]? fun x193 x194 => must (false || x182.all flatV) (must (false || x184.all flatV) (must (false || x186.all flatV) (some (tup [int .i64 x179,
 int .i64 x180, osl x181 x182, osl x183 x184, osl x185 x186, osl x189 x190, int .i64 y11, bool y12, osl x193 x194, int .i64 y15]))))) (need (O.R 0 101 [agg [int .i64 y1, int
 .i64 y2, sl y3 y4, sl y5 y6, sl y7 y8]]) fun x195 => asTup (some x195) fun x196 => PI.asInt .i64 x196[0]? fun x197 => PI.asInt .i64 x196[1]? fun x198 => asOsl x196[2]? fun x199 x200 => asOsl
 x196[3]? fun x201 x202 => asOsl x196[4]? fun x203 x204 => need (O.R 0 102 [sl y9 y10]) fun x205 => asTup (some x205) fun x206 => asOsl x206[0]? fun x207 x208 => need (O.R 0 103 [sl y13 y14]) fun
 x209 => asTup (some x209) fun x210 => asOsl x210[0]? fun x211 x212 => must (false || x200.all flatV) (must (false || x202.all flatV) (must (false || x204.all flatV) (some (tup [int .i64 x197,
 int .i64 x198, osl x199 x200, osl x201 x202, osl x203 x204, osl x207 x208, int .i64 y11, bool y12, osl x211 x212, int .i64 y15])))))) (need (O.R 0 101 [agg [int .i64 y1, int
 .i64 y2, sl y3 y4, sl y5 y6, sl y7 y8]]) fun x213 => asTup (some x213) fun x214 => PI.asInt .i64 x214[0]? fun x215 => PI.asInt .i64 x214[1]? fun x216 => asOsl x214[2]? fun x217 x218 => asOsl
 x214[3]? fun x219 x220 => asOsl x214[4]? fun x221 x222 => need (O.R 0 102 [sl y9 y10]) fun x223 => asTup (some x223) fun x224 => asOsl x224[0]? fun x225 x226 => need (O.R 0 103 [sl y13 y14]) fun
 x227 => asTup (some x227) fun x228 => asOsl x228[0]? fun x229 x230 => must (false || x218.all flatV) (must (false || x220.all flatV) (must (false || x222.all flatV) (some (tup [int .i64 x215,
 int .i64 x216, osl x217 x218, osl x219 x220, osl x221 x222, osl x225 x226, int .i64 y11, bool y12, osl x229 x230, int .i64 y15])))))))
theorem E52 (y1 y2 y3 y4 y5 y6 y7 y8 y9 y10 y11 y12 y13 y14 y15) {r
 : V} (h : T52 (orcE C) y1 y2 y3 y4 y5 y6 y7 y8 y9 y10 y11 y12 y13 y14 y15 = some r) : runE C 52 [agg [int .i64 y1, int .i64 y2, sl y3 y4, sl y5 y6, sl y7 y8, sl y9 y10, int
 .i64 y11, bool y12, sl y13 y14, int .i64 y15]] = some r := ofR (j := 1) (F := fun s => T52 (orc C s.k) y1 y2 y3 y4 y5 y6 y7 y8 y9 y10 y11 y12 y13 y14 y15) (fun _ => by kernel_rfl) (by
  unfold T52
  repeat' first | (with_reducible first | exact cC | refine cN cR fun _ => ?_ | refine cT fun _ => ?_ | refine cI fun _ => ?_ | refine cM ?_ | refine cO fun _ _ => ?_ | refine cN cC fun _ => ?_ | refine cW ?_ ?_ | exact cR)) h
def T104l1 (O : Orc) (m : Nat) (y1 : Nat) (y2 : List V) (y3 : Nat) (y4 : List V) (y5 : Int) : Option V := bif decide (y5 < (↑y1 : Int)) then must (inB y5 y1) (PI.asInt .u8
 y2[y5.toNat * 1]? fun x1 => must (inB y5 y3) (PI.asInt .u8 y4[y5.toNat * 1]? fun x2 => bif x1 != x2 then some (tup [bool false]) else O.L 0 104 0 [true, true, false, true] [] m [(0, sl y1 y2),
 (1, sl y3 y4), (5, int .i64 (i64.wrap (y5 + 1)))] [])) else some (tup [bool true])
theorem E104l1 (y1 y2 y3 y4 y5) {r : V} (h : T104l1 (orcE C) 0 y1 y2 y3 y4 y5 = some r) : loopE C 104 0 [true, true, false, true] [] [(0, sl y1 y2),
 (1, sl y3 y4), (5, int .i64 y5)] [] = some r := ofL (j := 0) (F := fun s => T104l1 (orc C s.k) s.m y1 y2 y3 y4 y5) (fs0 fun _ _ => by kernel_rfl) (by
  unfold T104l1
  repeat' first | (with_reducible first | exact cC | refine cI fun _ => ?_ | refine cM ?_ | refine cF ?_ ?_) | exact cD0 gM) h
def T105 (O : Orc) (y1 y2 : Int) (y3 : Nat) (y4 : List V) (y5 y6 : Int) (y7 : Nat) (y8 : List V) (y9 y10 : Int) (y11 : Nat) (y12 : List V) (y13 :
 Int) (y14 : Int) (y15 : Nat) (y16 : List V) : Option V := bif y1 != y9 then some (tup [bool false]) else need (O.R 0 129 [agg [int .i64 y2, sl y3 y4, int .i64 y5, int .i64 y6, sl y7
 y8], agg [int .i64 y10, sl y11 y12, int .i64 y13, int .i64 y14, sl y15 y16]]) fun x1 => asTup (some x1) fun x2 => PI.asBool x2[0]? fun x3 => bif !x3 then some (tup [bool false]) else
 some (tup [bool true])
theorem E105 (y1 y2 y3 y4 y5 y6 y7 y8 y9 y10 y11 y12 y13 y14 y15) (y16 :
 List V) {r : V} (h : T105 (orcE C) y1 y2 y3 y4 y5 y6 y7 y8 y9 y10 y11 y12 y13 y14 y15 y16 = some r) : runE C 105 [agg [int .i64 y1, int .i64 y2, sl y3 y4, int .i64 y5, int .i64 y6,
 sl y7 y8], agg [int .i64 y9, int .i64 y10, sl y11 y12, int .i64 y13, int .i64 y14, sl y15 y16]] = some r := ofR (j := 1) (F := fun s => T105 (orc C s.k) y1 y2 y3 y4 y5 y6
 y7 y8 y9 y10 y11 y12 y13 y14 y15 y16) (fun _ => by kernel_rfl) (by
  unfold T105
  repeat' first | (with_reducible first | exact cC | refine cN cR fun _ => ?_ | refine cT fun _ => ?_ | refine cF ?_ ?_ | refine cB fun _ => ?_ | refine cN cC fun _ => ?_ | exact cR)) h
def T59l1 (O : Orc) (m : Nat) (y1 y2 : Int) (y3 : Nat) (y4 : List V) : Option V := bif decide (y2 < (↑y3 : Int)) then must (inB y2 y3) (must ([int .u8 (u8.wrap
 y1)].length.beq 1 && (y2.toNat * 1 + [int .u8 (u8.wrap y1)].length).ble y4.length) (O.X 0 59 [0] [Ob.row 5 0 [] false] 0 [true, false, true] [] m [(0, ref 0), (1, int .i64
 (i64.wrap (y1 + 1))), (5, int .i64 (i64.wrap (y2 + 1)))] [Ob.row 5 y3 (splice y4 (y2.toNat * 1) [int .u8 (u8.wrap y1)]) false])) else must (false || y4.all flatV) (some
 (tup [int .i64 y1, osl y3 y4]))
theorem E59l1 (y1 y2 y3 y4) {r : V} (h : T59l1 (orcE C) 0 y1 y2 y3 y4 = some r) : loopWE C 59 [0] [Ob.row 5 0 [] false] 0 [true, false, true] [] [(0, ref 0),
 (1, int .i64 y1), (5, int .i64 y2)] [Ob.row 5 y3 y4 false] = some r := ofX (j := 0) (F := fun s => T59l1 (orc C s.k) s.m y1 y2 y3 y4) (fs0 fun _ _ => by kernel_rfl) (by
  unfold T59l1
  repeat' first | (with_reducible first | exact cC | refine cM ?_ | refine cF ?_ ?_) | exact cX0 gM) h
def T130 (O : Orc) (k : Nat) (y1 : Nat) (y2 : List V) (y3 : Int) : Option V := O.L 0 130 0 [true, false, true] [] k [(0, sl y1 y2), (1, int .i64 y3), (5, int .i64 0)] []
theorem E130 (y1 y2 y3) {r : V} (h : T130 (orcE C) 0 y1 y2 y3 = some r) : runE C 130 [sl y1 y2, int .i64 y3] = some r := ofR (j := 1) (F := fun s => T130 (orc C s.k) s.k y1 y2 y3) (fun _ => by kernel_rfl) (by
  unfold T130
  repeat' first | with_reducible exact cC | exact cD0 gK) h
def T107l1 (O : Orc) (m : Nat) (y1 : Nat) (y2 : List V) (y3 y4 : Int) : Option V := bif decide (y4 < (↑y1 : Int)) then must (inB y4 y1) (must (decide (y4.toNat * 2 + 0 <
 y2.length)) (asSl y2[y4.toNat * 2 + 0]? fun x1 x2 => need (O.R 0 130 [sl x1 x2, int .i64 y3]) fun x3 => asTup (some x3) fun x4 => PI.asInt .i64 x4[0]? fun x5 => bif decide (x5 < 0) then some
 (tup [int .i64 (-1)]) else must (inB y4 y1) (PI.asInt .i64 y2[y4.toNat * 2 + 1]? fun x6 => bif x6 != x5 then some (tup [int .i64 (-1)]) else O.L 0 107 0 [true, false, true] [] m [(0, sl y1
 y2), (1, int .i64 (i64.wrap (x5 + 1))), (5, int .i64 (i64.wrap (y4 + 1)))] []))) else some (tup [int .i64 y3])
theorem E107l1 (y1 y2 y3 y4) {r : V} (h : T107l1 (orcE C) 0 y1 y2 y3 y4 = some r) : loopE C 107 0 [true, false, true] [] [(0, sl y1 y2), (1, int .i64 y3), (5,
 int .i64 y4)] [] = some r := ofL (j := 0) (F := fun s => T107l1 (orc C s.k) s.m y1 y2 y3 y4) (fs0 fun _ _ => by kernel_rfl) (by
  unfold T107l1
  repeat' first | (with_reducible first | exact cC | refine cN cR fun _ => ?_ | refine cT fun _ => ?_ | refine cI fun _ => ?_ | refine cM ?_ | refine cF ?_ ?_ | refine cL fun _ _ => ?_ | refine cN cC fun _ => ?_ | exact cR) | exact cD0 gM) h
def T108l1 (O : Orc) (m : Nat) (y1 : Nat) (y2 : List V) (y3 y4 : Int) : Option V := bif decide (y4 < (↑y1 : Int)) then must (inB y4 y1) (must (decide (y4.toNat * 1 <
 y2.length)) (asSl y2[y4.toNat * 1]? fun x1 x2 => need (O.R 0 130 [sl x1 x2, int .i64 y3]) fun x3 => asTup (some x3) fun x4 => PI.asInt .i64 x4[0]? fun x5 => bif decide (x5 < 0) then some (tup
 [int .i64 (-1)]) else O.L 0 108 0 [true, false, true] [] m [(0, sl y1 y2), (1, int .i64 x5), (5, int .i64 (i64.wrap (y4 + 1)))] [])) else some (tup [int .i64 y3])
theorem E108l1 (y1 y2 y3 y4) {r : V} (h : T108l1 (orcE C) 0 y1 y2 y3 y4 = some r) : loopE C 108 0 [true, false, true] [] [(0, sl y1 y2), (1, int .i64 y3), (5,
 int .i64 y4)] [] = some r := ofL (j := 0) (F := fun s => T108l1 (orc C s.k) s.m y1 y2 y3 y4) (fs0 fun _ _ => by kernel_rfl) (by
  unfold T108l1
  repeat' first | (with_reducible first | exact cC | refine cN cR fun _ => ?_ | refine cT fun _ => ?_ | refine cI fun _ => ?_ | refine cM ?_ | refine cF ?_ ?_ | refine cL fun _ _ => ?_ | refine cN cC fun _ => ?_ | exact cR) | exact cD0 gM) h
def T82 (O : Orc) (k : Nat) (y1 : Nat) (y2 : List V) (y3 : Nat) (y4 : List V) (y5 y6 : Int) (y7 : Nat) (y8 : List V) (y9 : Nat) (y10 : List V) (y11 : Nat) (y12 : List V) (y13 : Nat) (y14 : List V) : Option V := O.L 0 82 0 [true, true, false, true] [] k [(0, sl y1 y2), (1, sl y3 y4), (5, ptr 0 0), (7, int .i64 0), (8, int .i64 0)] [Ob.box 46 [int .i64 y5,
 int .i64 y6, sl y7 y8, sl y9 y10, sl y11 y12, sl y13 y14] false]
theorem E82 (y1 y2 y3 y4 y5 y6 y7 y8 y9 y10 y11 y12 y13 y14) {r : V} (h :
 T82 (orcE C) 0 y1 y2 y3 y4 y5 y6 y7 y8 y9 y10 y11 y12 y13 y14 = some r) : runE C 82 [sl y1 y2, sl y3 y4, agg [int .i64 y5, int .i64 y6, sl y7 y8, sl y9 y10, sl y11 y12, sl y13
 y14]] = some r := ofR (j := 1) (F := fun s => T82 (orc C s.k) s.k y1 y2 y3 y4 y5 y6 y7 y8 y9 y10 y11 y12 y13 y14) (fun _ => by kernel_rfl) (by
  unfold T82
  repeat' first | with_reducible exact cC | exact cD0 gK) h
def T99l1 (O : Orc) (m : Nat) (y1 : Nat) (y2 : List V) (y3 : Nat) (y4 : List V) (y5 : Int) (y6 : Nat) (y7 : List V) (y8 y9 : Int) : Option V := bif decide (y9 < y8) then
 must (inB y9 y6) (PI.asInt .i64 y7[y9.toNat * 6]? fun x1 => PI.asInt .i64 y7[y9.toNat * 6 + 1]? fun x2 => asSl y7[y9.toNat * 6 + 1 + 1]? fun x3 x4 => PI.asInt .i64 y7[y9.toNat * 6 + 1 + 1 + 1]? fun x5
 => PI.asInt .i64 y7[y9.toNat * 6 + 1 + 1 + 1 + 1]? fun x6 => asSl y7[y9.toNat * 6 + 1 + 1 + 1 + 1 + 1]? fun x7 x8 => must (inB x1 y1) (must (decide (x1.toNat * 2 + 0 < y2.length)) (asSl y2[x1.toNat *
 2 + 0]? fun x9 x10 => need (O.R 0 120 [sl y3 y4, sl x9 x10]) fun x11 => asTup (some x11) fun x12 => PI.asInt .i64 x12[0]? fun x13 => bif decide (x13 ≥ 0) then must (inB x13 y3) (PI.asInt .i64
 y4[x13.toNat * 2 + 1]? fun x14 => O.L 0 99 0 [true, true, false, true] [] m [(0, sl y1 y2), (1, sl y3 y4), (7, int .i64 (i64.wrap (y5 + x14))), (12, sl y6 y7), (13, int .i64 y8),
 (14, int .i64 (i64.wrap (y9 + 1)))] []) else O.L 0 99 0 [true, true, false, true] [] m [(0, sl y1 y2), (1, sl y3 y4), (7, int .i64 y5), (12, sl y6 y7), (13, int .i64 y8), (14,
 int .i64 (i64.wrap (y9 + 1)))] []))) else some (tup [int .i64 y5])
theorem E99l1 (y1 y2 y3 y4 y5 y6 y7 y8 y9) {r : V} (h : T99l1 (orcE C) 0 y1 y2 y3 y4 y5 y6 y7 y8 y9 = some r) :
 loopE C 99 0 [true, true, false, true] [] [(0, sl y1 y2), (1, sl y3 y4), (7, int .i64 y5), (12, sl y6 y7), (13, int .i64 y8), (14, int .i64 y9)] [] = some r := ofL (j := 0) (F := fun s =>
 T99l1 (orc C s.k) s.m y1 y2 y3 y4 y5 y6 y7 y8 y9) (fs0 fun _ _ => by kernel_rfl) (by
  unfold T99l1
  repeat' first | (with_reducible first | exact cC | refine cN cR fun _ => ?_ | refine cT fun _ => ?_ | refine cI fun _ => ?_ | refine cM ?_ | refine cF ?_ ?_ | refine cL fun _ _ => ?_ | refine cN cC fun _ => ?_ | exact cR) | exact cD0 gM) h
def T112 (O : Orc) (y1 : Int) (y2 : Nat) (y3 : List V) (y4 y5 : Int) (y6 : Nat) (y7 : List V) (y8 : Int) : Option V := need (O.R 0 31 [sl y2 y3, int .i64
 y8]) fun x1 => asTup (some x1) fun x2 => PI.asInt .i64 x2[0]? fun x3 => bif decide (x3 < 0) then some (tup [int .i64 (-1)]) else need (O.R 0 131 [agg [int .i64 y4, int .i64 y5, sl y6 y7],
 int .i64 x3]) fun x4 => asTup (some x4) fun x5 => PI.asInt .i64 x5[0]? fun x6 => bif decide (x6 < 0) then some (tup [int .i64 (-1)]) else some (tup [int .i64 x6])
theorem E112 (y1 y2 y3 y4 y5 y6 y7 y8) {r : V} (h : T112 (orcE C) y1 y2 y3 y4 y5 y6 y7 y8 = some r) : runE C 112 [agg
 [int .i64 y1, sl y2 y3, int .i64 y4, int .i64 y5, sl y6 y7], int .i64 y8] = some r := ofR (j := 1) (F := fun s => T112 (orc C s.k) y1 y2 y3 y4 y5 y6 y7 y8) (fun _ => by
 kernel_rfl) (by
  unfold T112
  repeat' first | (with_reducible first | exact cC | refine cN cR fun _ => ?_ | refine cT fun _ => ?_ | refine cI fun _ => ?_ | refine cF ?_ ?_ | refine cN cC fun _ => ?_ | exact cR)) h
def T118 (O : Orc) (y1 : Int) (y2 : Nat) (y3 : List V) (y4 y5 : Int) (y6 : Nat) (y7 : List V) : Option V := need (O.R 0 43 [sl y2 y3]) fun x1 => asTup (some
 x1) fun x2 => asOsl x2[0]? fun x3 x4 => need (O.R 0 142 [agg [int .i64 y4, int .i64 y5, sl y6 y7]]) fun x5 => asTup (some x5) fun x6 => PI.asInt .i64 x6[0]? fun x7 => PI.asInt .i64 x6[1]? fun
 x8 => asOsl x6[2]? fun x9 x10 => some (tup [int .i64 y1, osl x3 x4, int .i64 x7, int .i64 x8, osl x9 x10])
theorem E118 (y1 y2 y3 y4 y5 y6 y7) {r : V} (h : T118 (orcE C) y1 y2 y3 y4 y5 y6 y7 = some r) : runE C 118 [agg [int .i64 y1,
 sl y2 y3, int .i64 y4, int .i64 y5, sl y6 y7]] = some r := ofR (j := 1) (F := fun s => T118 (orc C s.k) y1 y2 y3 y4 y5 y6 y7) (fun _ => by kernel_rfl) (by
  unfold T118
  repeat' first | (with_reducible first | exact cC | refine cN cR fun _ => ?_ | refine cT fun _ => ?_ | refine cI fun _ => ?_ | refine cO fun _ _ => ?_ | refine cN cC fun _ => ?_ | exact cR)) h
def T72l1 (O : Orc) (k m : Nat) (y1 : Nat) (y2 : List V) (y3 : Int) : Option V := bif decide (y3 < (↑y1 : Int)) then must (inB y3 y1) (must (decide (y3.toNat * 2 + 0 < y2.length))
 (asSl y2[y3.toNat * 2 + 0]? fun x1 x2 => bif (↑x1 : Int) != 32 then some (tup [int .i64 1]) else must (inB y3 y1) (PI.asInt .i64 y2[y3.toNat * 2 + 1]? fun x3 => need (O.R 0 74 [int .i64 x3,
 int .i64 1, int .i64 1000]) fun x4 => asTup (some x4) fun x5 => PI.asBool x5[0]? fun x6 => bif !x6 then some (tup [int .i64 3]) else O.L 0 72 2 [true, true, true, false, true, false, true,
 false, false, true, true, true] [m] k [(0, sl y1 y2), (3, int .i64 y3), (4, int .i64 0)] []))) else some (tup [int .i64 0])
theorem E72l1 (y1 y2 y3) {r : V} (h : T72l1 (orcE C) 0 0 y1 y2 y3 = some r) : loopE C 72 0 [true, true, true, false, true] [] [(0, sl y1 y2), (3, int .i64 y3)] [] =
 some r := ofL (j := 0) (F := fun s => T72l1 (orc C s.k) s.k s.m y1 y2 y3) (fs0 fun _ _ => by kernel_rfl) (by
  unfold T72l1
  repeat' first | (with_reducible first | exact cC | refine cN cR fun _ => ?_ | refine cT fun _ => ?_ | refine cI fun _ => ?_ | refine cM ?_ | refine cF ?_ ?_ | refine cB fun _ => ?_ | refine cL fun _ _ => ?_ | refine cN cC fun _ => ?_ | exact cR) | exact cD1 gK gM) h
def T73l1 (O : Orc) (m : Nat) (y1 : Nat) (y2 : List V) (y3 : Int) (y4 : Nat) (y5 : List V) : Option V := bif decide (y3 < (↑y1 : Int)) then must (inB y3 y1) (must (decide
 (y3.toNat * 2 + 0 < y2.length)) (must (inB y3 y1) (PI.asInt .i64 y2[y3.toNat * 2 + 1]? fun x1 => need (O.R 0 79 [int .i64 x1]) fun x2 => asTup (some x2) fun x3 => asSl x3[0]? fun x4 x5 => asSl
 y2[y3.toNat * 2 + 0]? fun x6 x7 => must (true && (y4 + 2).ble 140737488355328 && ((y4 + 2) * 24).ble 140737488355328) (O.L 0 73 0 [true, true, false, true] [] m [(0, sl y1 y2), (3, ref 0), (4,
 int .i64 (i64.wrap (y3 + 1)))] [Ob.row 22 (y4 + 2) (y5 ++ [sl x6 x7, sl x4 x5]) false])))) else need (O.R 0 78 [sl y4 y5]) fun x8 => asTup (some x8) fun x9 => asOsl x9[0]? fun x10 x11
 => need (O.R 0 77 [str { data := #[(115 : UInt8), (101 : UInt8), (116 : UInt8)] }, sl x10 x11]) fun x12 => asTup (some x12) fun x13 => asOsl x13[0]? fun x14 x15 => some (tup [sl x14 x15])
theorem E73l1 (y1 y2 y3 y4 y5) {r : V} (h : T73l1 (orcE C) 0 y1 y2 y3 y4 y5 = some r) : loopE C 73 0 [true, true, false, true] [] [(0, sl y1 y2), (3,
 ref 0), (4, int .i64 y3)] [Ob.row 22 y4 y5 false] = some r := ofL (j := 0) (F := fun s => T73l1 (orc C s.k) s.m y1 y2 y3 y4 y5) (fs0 fun _ _ => by kernel_rfl) (by
  unfold T73l1
  repeat' first | (with_reducible first | exact cC | refine cN cR fun _ => ?_ | refine cT fun _ => ?_ | refine cI fun _ => ?_ | refine cM ?_ | refine cF ?_ ?_ | refine cL fun _ _ => ?_ | refine cO fun _ _ => ?_ | refine cN cC fun _ => ?_ | exact cR) | exact cD0 gM) h
def T76 (O : Orc) (k : Nat) (y1 : Nat) (y2 : List V) (y3 : Nat) (y4 : List V) : Option V := O.L 0 76 0 [true, false, true] [] k [(0, sl y1 y2), (1, sl y3 y4), (5, int .i64
 0)] []
theorem E76 (y1 y2 y3 y4) {r : V} (h : T76 (orcE C) 0 y1 y2 y3 y4 = some r) : runE C 76 [sl y1 y2, sl y3 y4] = some r := ofR (j := 1) (F := fun s => T76 (orc C s.k) s.k y1 y2 y3 y4) (fun _ => by kernel_rfl) (by
  unfold T76
  repeat' first | with_reducible exact cC | exact cD0 gK) h
def T79 (O : Orc) (k : Nat) (y1 : Int) : Option V := O.L 0 79 0 [true, true, false, true] [] k [(0, int .i64 y1), (3, ref 0), (4, int .i64 6)] [Ob.row 5 0 [] false]
theorem E79 (y1) {r : V} (h : T79 (orcE C) 0 y1 = some r) : runE C 79 [int .i64 y1] = some r := ofR (j := 1) (F := fun s => T79 (orc C s.k) s.k y1) (fun _ => by kernel_rfl) (by
  unfold T79
  repeat' first | with_reducible exact cC | exact cD0 gK) h
def T78 (O : Orc) (k : Nat) (y1 : Nat) (y2 : List V) : Option V := O.L 0 78 0 [true, true, false, true] [] k [(0, sl y1 y2), (3, ref 0), (4, int .i64 0)] [Ob.row 5 0 []
 false]
theorem E78 (y1 y2) {r : V} (h : T78 (orcE C) 0 y1 y2 = some r) : runE C 78 [sl y1 y2] = some r := ofR (j := 1) (F := fun s => T78 (orc C s.k) s.k y1 y2) (fun _ => by
 kernel_rfl) (by
  unfold T78
  repeat' first | with_reducible exact cC | exact cD0 gK) h
def T77 (O : Orc) (y1 : ByteArray) (y2 : Nat) (y3 : List V) : Option V := must (y1.size.ble 140737488355328) (must (decide ((bytesV y1.data.toList).length = y1.size *
 1)) (must (true && (1 + y1.size).ble 140737488355328 && ((1 + y1.size) * 1).ble 140737488355328) (must (decide (y3.length = y2 * 1)) (must (true && (1 + y1.size + y2).ble 140737488355328 && ((1 +
 y1.size + y2) * 1).ble 140737488355328) (need (O.R 0 117 [sl (1 + y1.size + y2) (int .u8 (u8.wrap ((↑y1.size : Int).tmod 256)) :: bytesV y1.data.toList ++ y3)]) fun x1 => asTup (some x1)
 fun x2 => asOsl x2[0]? fun x3 x4 => must (false || x4.all flatV) (some (tup [osl x3 x4])))))))
theorem E77 (y1 y2 y3) {r : V} (h : T77 (orcE C) y1 y2 y3 = some r) : runE C 77 [str y1, sl y2 y3] = some r := ofR (j := 1) (F := fun s => T77 (orc C s.k) y1 y2 y3) (fun _ => by kernel_rfl) (by
  unfold T77
  repeat' first | (with_reducible first | exact cC | refine cN cR fun _ => ?_ | refine cT fun _ => ?_ | refine cM ?_ | refine cO fun _ _ => ?_ | refine cN cC fun _ => ?_ | exact cR)) h
def T75 (O : Orc) (k : Nat) (y1 : Nat) (y2 : List V) (y3 : Nat) (y4 : List V) (y5 : Int) (y6 : Nat) (y7 : List V) (y8 y9 : Int) (y10 : Nat) (y11 : List V) : Option V :=
 need (O.R 0 113 [agg [int .i64 y5, sl y6 y7, int .i64 y8, int .i64 y9, sl y10 y11]]) fun x1 => asTup (some x1) fun x2 => PI.asBool x2[0]? fun x3 => bif !x3 then some (tup [bool false])
 else need (O.R 0 114 [sl y3 y4]) fun x4 => asTup (some x4) fun x5 => asOsl x5[0]? fun x6 x7 => O.L 0 75 0 [true, true, true, true, false, true] [] k [(0, sl y1 y2), (5, ptr 0 0), (7, ref 1),
 (8, ref 2), (9, int .i64 0)] [Ob.box 108 [int .i64 y5, sl y6 y7, int .i64 y8, int .i64 y9, sl y10 y11] false, Ob.row 2 x6 x7 false, Ob.row 5 0 [] false]
theorem E75 (y1 y2 y3 y4 y5 y6 y7 y8 y9 y10 y11) {r : V} (h : T75 (orcE C) 0 y1 y2 y3 y4 y5 y6 y7
 y8 y9 y10 y11 = some r) : runE C 75 [sl y1 y2, sl y3 y4, agg [int .i64 y5, sl y6 y7, int .i64 y8, int .i64 y9, sl y10 y11]] = some r := ofR (j := 1) (F := fun s => T75 (orc C s.k) s.k y1 y2 y3 y4 y5 y6 y7 y8 y9 y10 y11) (fun _ => by kernel_rfl) (by
  unfold T75
  repeat' first | (with_reducible first | exact cC | refine cN cR fun _ => ?_ | refine cT fun _ => ?_ | refine cF ?_ ?_ | refine cB fun _ => ?_ | refine cO fun _ _ => ?_ | refine cN cC fun _ => ?_ | exact cR) | exact cD0 gK) h
def T80l1 (O : Orc) (m : Nat) (y1 : Nat) (y2 : List V) (y3 y4 y5 y6 : Int) (y7 : Nat) (y8 : List V) (y9 : Nat) (y10 : List V) (y11 : Nat) (y12 : List V) (y13 : Nat) (y14 : List V) : Option V := bif decide (y4 < (↑y13 : Int)) then must (inB y4 y13) (PI.asInt .i64 y14[y4.toNat * 6 + 0]? fun x1 => must (inB x1 y1) (PI.asInt .i64 y2[x1.toNat * 2 + 1]? fun
 x2 => O.L 0 80 0 [true, true, false, true] [] m [(0, sl y1 y2), (3, ptr 0 0), (5, int .i64 (i64.wrap (y3 + x2))), (6, int .i64 (i64.wrap (y4 + 1)))] [Ob.box 46 [int .i64 y5,
 int .i64 y6, sl y7 y8, sl y9 y10, sl y11 y12, sl y13 y14] false])) else some (tup [int .i64 y3])
theorem E80l1 (y1 y2 y3 y4 y5 y6 y7 y8 y9 y10 y11 y12 y13 y14) {r : V} (h :
 T80l1 (orcE C) 0 y1 y2 y3 y4 y5 y6 y7 y8 y9 y10 y11 y12 y13 y14 = some r) : loopE C 80 0 [true, true, false, true] [] [(0, sl y1 y2), (3, ptr 0 0), (5, int .i64 y3), (6, int .i64 y4)]
 [Ob.box 46 [int .i64 y5, int .i64 y6, sl y7 y8, sl y9 y10, sl y11 y12, sl y13 y14] false] = some r := ofL (j := 0) (F := fun s => T80l1 (orc C s.k) s.m y1 y2 y3 y4 y5 y6 y7 y8 y9
 y10 y11 y12 y13 y14) (fs0 fun _ _ => by kernel_rfl) (by
  unfold T80l1
  repeat' first | (with_reducible first | exact cC | refine cI fun _ => ?_ | refine cM ?_ | refine cF ?_ ?_) | exact cD0 gM) h
def T81l1 (O : Orc) (m : Nat) (y1 : Nat) (y2 : List V) (y3 y4 : Int) : Option V := bif decide (y4 < (↑y1 : Int)) then must (inB y4 y1) (PI.asInt .i64 y2[y4.toNat * 2 + 1]?
 fun x1 => O.L 0 81 0 [true, true, false, true] [] m [(0, sl y1 y2), (3, int .i64 (i64.wrap (y3 + x1))), (4, int .i64 (i64.wrap (y4 + 1)))] []) else some (tup [int .i64 y3])
theorem E81l1 (y1 y2 y3 y4) {r : V} (h : T81l1 (orcE C) 0 y1 y2 y3 y4 = some r) : loopE C 81 0 [true, true, false, true] [] [(0, sl y1 y2), (3, int .i64 y3),
 (4, int .i64 y4)] [] = some r := ofL (j := 0) (F := fun s => T81l1 (orc C s.k) s.m y1 y2 y3 y4) (fs0 fun _ _ => by kernel_rfl) (by
  unfold T81l1
  repeat' first | (with_reducible first | exact cC | refine cI fun _ => ?_ | refine cM ?_ | refine cF ?_ ?_) | exact cD0 gM) h
def T83 (O : Orc) (y1 y2 : Int) (y3 : Nat) (y4 : List V) (y5 : Nat) (y6 : List V) (y7 : Nat) (y8 : List V) : Option V := must (decide (y4.length = y3 * 1)) (must
 (true && (0 + y3).ble 140737488355328 && ((0 + y3) * 1).ble 140737488355328) (must (decide (y6.length = y5 * 1)) (must (true && (0 + y5).ble 140737488355328 && ((0 + y5) * 1).ble 140737488355328)
 (must (decide (y8.length = y7 * 1)) (must (true && (0 + y7).ble 140737488355328 && ((0 + y7) * 1).ble 140737488355328) (must (false || y4.all flatV) (must (false || y6.all flatV) (must (false ||
 y8.all flatV) (some (tup [int .i64 y1, int .i64 y2, osl (0 + y3) y4, osl (0 + y5) y6, osl (0 + y7) y8]))))))))))
theorem E83 (y1 y2 y3 y4 y5 y6 y7 y8) {r : V} (h : T83 (orcE C) y1 y2 y3 y4 y5 y6 y7 y8 = some r) : runE C 83 [agg
 [int .i64 y1, int .i64 y2, sl y3 y4, sl y5 y6, sl y7 y8]] = some r := ofR (j := 1) (F := fun s => T83 (orc C s.k) y1 y2 y3 y4 y5 y6 y7 y8) (fun _ => by kernel_rfl) (by
  unfold T83
  repeat' first | (with_reducible first | exact cC | refine cM ?_)) h
def T84 (O : Orc) (k : Nat) (y1 : Nat) (y2 : List V) : Option V := O.L 0 84 0 [true, true, false, true] [] k [(0, sl y1 y2), (3, ref 0), (4, int .i64 0)] [Ob.row 78 0 []
 false]
theorem E84 (y1 y2) {r : V} (h : T84 (orcE C) 0 y1 y2 = some r) : runE C 84 [sl y1 y2] = some r := ofR (j := 1) (F := fun s => T84 (orc C s.k) s.k y1 y2) (fun _ => by
 kernel_rfl) (by
  unfold T84
  repeat' first | with_reducible exact cC | exact cD0 gK) h
def T85 (O : Orc) (k : Nat) (y1 : Nat) (y2 : List V) : Option V := O.L 0 85 0 [true, true, false, true] [] k [(0, sl y1 y2), (3, ref 0), (4, int .i64 0)] [Ob.row 22 0 []
 false]
theorem E85 (y1 y2) {r : V} (h : T85 (orcE C) 0 y1 y2 = some r) : runE C 85 [sl y1 y2] = some r := ofR (j := 1) (F := fun s => T85 (orc C s.k) s.k y1 y2) (fun _ => by
 kernel_rfl) (by
  unfold T85
  repeat' first | with_reducible exact cC | exact cD0 gK) h
def T109l2 (O : Orc) (m : Nat) (y1 : Nat) (y2 : List V) (y3 y4 : Int) (y5 : Nat) (y6 : List V) (y7 : Nat) (y8 : List V) (y9 : Nat) (y10 : List V) (y11 : Nat) (y12 : List
 V) (y13 y14 y15 y16 : Int) (y17 : Bool) (y18 : Int) (y19 : Nat) (y20 : List V) (y21 : Nat) (y22 : List V) (y23 : Nat) (y24 : List V) (y25 : Nat) (y26 : List V) (y27 : Nat) (y28
 : List V) (y29 : Int) (y30 : Int) (y31 : Int) (y32 : Bool) (y33 : Nat) (y34 : List V) (y35 : Int) (y36 : Nat) (y37 : List V) (y38 : Nat) (y39 : List V) (y40 : Nat) (y41 : List V) (y42 : Nat) (y43 :
 List V) : Option V := bif decide ((↑y33 : Int) > 24) then must (true && decide (1 ≤ (↑y33 : Int))) (O.L 0 109 0 [true, true, true, true, true, true, true, false] [] m [(2, sl y1 y2), (4, ptr 0 0),
 (6, ptr 1 0), (8, ptr 7 0)] [Ob.box 46 [int .i64 y3, int .i64 y4, sl y5 y6, sl y7 y8, sl y9 y10, sl y11 y12] false, Ob.box 40 [int .i64 y13, int .i64 y14, int .i64 y15, ref 2,
 ref 3, ref 4, ref 5, int .i64 y16, bool y17, ref 6, int .i64 y18] false, Ob.row 5 y19 y20 false, Ob.row 5 y21 y22 false, Ob.row 5 y23 y24 false, Ob.row 78 y25 y26 false, Ob.nrow [] 22
 y27 y28, Ob.box 38 [int .i64 y29, int .i64 y30, ref 8, ref 9, ref 10, ref 11, int .i64 y31, bool y32, sl (y33 - 1) (List.take ((y33 - 1) * 1) (List.drop 1 y34)), int .i64
 (i64.wrap (y35 + 1))] false, Ob.row 5 y36 y37 false, Ob.row 5 y38 y39 false, Ob.row 5 y40 y41 false, Ob.row 78 y42 y43 false]) else need (O.R 0 83 [agg [int .i64 y3, int .i64 y4, sl y5
 y6, sl y7 y8, sl y9 y10]]) fun x1 => asTup (some x1) fun x2 => PI.asInt .i64 x2[0]? fun x3 => PI.asInt .i64 x2[1]? fun x4 => asOsl x2[2]? fun x5 x6 => asOsl x2[3]? fun x7 x8 => asOsl x2[4]? fun x9
 x10 => need (O.R 0 84 [sl y1 y2]) fun x11 => asTup (some x11) fun x12 => asOsl x12[0]? fun x13 x14 => some (tup [int .i64 0, int .i64 x3, int .i64 x4, sl x5 x6, sl x7 x8, sl x9 x10,
 sl x13 x14, int .i64 y31, bool y32, sl y33 y34, int .i64 y35])
theorem E109l2 (y1 y2 y3 y4 y5 y6 y7 y8 y9 y10 y11 y12 y13 y14 y15 y16 y17 y18 y19 y20 y21 y22 y23 y24 y25 y26 y27 y28 y29 y30) (y31
 : Int) (y32 : Bool) (y33 : Nat) (y34 : List V) (y35 : Int) (y36 : Nat) (y37 : List V) (y38 : Nat) (y39 : List V) (y40 : Nat) (y41 : List V) (y42 : Nat) (y43 : List V) {r : V} (h : T109l2 (orcE C) 0 y1 y2 y3 y4 y5 y6 y7 y8 y9 y10 y11 y12 y13 y14 y15 y16 y17 y18 y19 y20 y21 y22 y23 y24 y25 y26 y27 y28 y29 y30 y31 y32 y33 y34 y35 y36 y37 y38 y39 y40 y41 y42 y43 = some r) : loopE C 109 0 [true,
 true, true, true, true, true, true, false] [] [(2, sl y1 y2), (4, ptr 0 0), (6, ptr 1 0), (8, ptr 7 0)] [Ob.box 46 [int .i64 y3, int .i64 y4, sl y5 y6, sl y7 y8, sl y9 y10, sl y11
 y12] false, Ob.box 40 [int .i64 y13, int .i64 y14, int .i64 y15, ref 2, ref 3, ref 4, ref 5, int .i64 y16, bool y17, ref 6, int .i64 y18] false, Ob.row 5 y19 y20 false, Ob.row 5
 y21 y22 false, Ob.row 5 y23 y24 false, Ob.row 78 y25 y26 false, Ob.nrow [] 22 y27 y28, Ob.box 38 [int .i64 y29, int .i64 y30, ref 8, ref 9, ref 10, ref 11, int .i64 y31, bool y32, sl
 y33 y34, int .i64 y35] false, Ob.row 5 y36 y37 false, Ob.row 5 y38 y39 false, Ob.row 5 y40 y41 false, Ob.row 78 y42 y43 false] = some r := ofL (j := 0) (F := fun s => T109l2 (orc C s.k) s.m
 y1 y2 y3 y4 y5 y6 y7 y8 y9 y10 y11 y12 y13 y14 y15 y16 y17 y18 y19 y20 y21 y22 y23 y24 y25 y26 y27 y28 y29 y30 y31 y32 y33 y34 y35 y36 y37 y38 y39 y40 y41 y42 y43) (fs0 fun _ _ => by kernel_rfl) (by
  unfold T109l2
  repeat' first | (with_reducible first | exact cC | refine cN cR fun _ => ?_ | refine cT fun _ => ?_ | refine cI fun _ => ?_ | refine cM ?_ | refine cF ?_ ?_ | refine cO fun _ _ => ?_ | refine cN cC fun _ => ?_ | exact cR) | exact cD0 gM) h
def T121 (O : Orc) (k : Nat) (y1 : Nat) (y2 : List V) : Option V := O.L 0 121 0 [true, false, true] [] k [(0, sl y1 y2), (1, fn 93 []), (7, int .i64 (↑y1 : Int)), (8, int
 .i64 0)] []
theorem E121 (y1 y2) {r : V} (h : T121 (orcE C) 0 y1 y2 = some r) : runE C 121 [sl y1 y2, fn 93 []] = some r := ofR (j := 1) (F := fun s => T121 (orc C s.k) s.k y1
 y2) (fun _ => by kernel_rfl) (by
  unfold T121
  repeat' first | with_reducible exact cC | exact cD0 gK) h
def T94 (O : Orc) (y1 : Nat) (y2 : List V) : Option V := some (tup [bool ((↑y1 : Int) == 32)])
theorem E94 (y1 y2) {r : V} (h : T94 (orcE C) y1 y2 = some r) : runE C 94 [sl y1 y2] = some r := ofR (j := 1) (F := fun s => T94 (orc C s.k) y1 y2) (fun _ => by
 kernel_rfl) (by
  unfold T94
  exact cC) h
def T120 (O : Orc) (y1 : Nat) (y2 : List V) (y3 : Nat) (y4 : List V) : Option V := need (O.R 0 144 [sl y1 y2, fn 145 [pin [sl y3 y4] 0]]) fun x1 => asTup (some
 x1) fun x2 => PI.asInt .i64 x2[0]? fun x3 => some (tup [int .i64 x3])
theorem E120 (y1 y2 y3 y4) {r : V} (h : T120 (orcE C) y1 y2 y3 y4 = some r) : runE C 120 [sl y1 y2, sl y3 y4] = some r := ofR (j := 1) (F := fun s =>
 T120 (orc C s.k) y1 y2 y3 y4) (fun _ => by kernel_rfl) (by
  unfold T120
  repeat' first | (with_reducible first | exact cC | refine cN cR fun _ => ?_ | refine cT fun _ => ?_ | refine cI fun _ => ?_ | refine cN cC fun _ => ?_ | exact cR)) h
def T92s2 (O : Orc) (y1 : Nat) (y2 : List V) : Option V := need (O.R 0 121 [sl y1 y2, fn 143 []]) fun x1 => asTup (some x1) fun x2 => PI.asInt .i64 x2[0]? fun x3 =>
 some (tup [bool (decide (x3 ≥ 0))])
theorem E92s2 (y1 y2) {r : V} (h : T92s2 (orcE C) y1 y2 = some r) : runE C 92 [sl y1 y2, fn 143 []] = some r := ofR (j := 1) (F := fun s => T92s2 (orc C s.k) y1
 y2) (fun _ => by kernel_rfl) (by
  unfold T92s2
  repeat' first | (with_reducible first | exact cC | refine cN cR fun _ => ?_ | refine cT fun _ => ?_ | refine cI fun _ => ?_ | refine cN cC fun _ => ?_ | exact cR)) h
def T98l1 (O : Orc) (m : Nat) (y1 y2 : Int) (y3 : Nat) (y4 : List V) : Option V := bif decide (y2 ≥ 0) then must (inB y2 y3) (must ([int .u8 (u8.wrap
 y1)].length.beq 1 && (y2.toNat * 1 + [int .u8 (u8.wrap y1)].length).ble y4.length) (O.L 0 98 0 [true, true, false, true] [] m [(0, int .i64 (y1.fdiv 256)), (3, ref 0), (4, int .i64
 (i64.wrap (y2 - 1)))] [Ob.row 5 y3 (splice y4 (y2.toNat * 1) [int .u8 (u8.wrap y1)]) false])) else some (tup [sl y3 y4])
theorem E98l1 (y1 y2 y3 y4) {r : V} (h : T98l1 (orcE C) 0 y1 y2 y3 y4 = some r) : loopE C 98 0 [true, true, false, true] [] [(0, int .i64 y1), (3, ref 0), (4,
 int .i64 y2)] [Ob.row 5 y3 y4 false] = some r := ofL (j := 0) (F := fun s => T98l1 (orc C s.k) s.m y1 y2 y3 y4) (fs0 fun _ _ => by kernel_rfl) (by
  unfold T98l1
  repeat' first | (with_reducible first | exact cC | refine cM ?_ | refine cF ?_ ?_) | exact cD0 gM) h
def T127 (O : Orc) (k : Nat) (y1 : Nat) (y2 : List V) : Option V := bif decide ((↑y1 : Int) > 60) then some (tup [sl 0 [], bool false]) else O.L 0 127 0 [true, true, true,
 false, true] [] k [(4, ref 0), (11, sl y1 y2), (12, int .i64 (↑y1 : Int)), (13, int .i64 0)] [Ob.row 5 0 [] false]
theorem E127 (y1 y2) {r : V} (h : T127 (orcE C) 0 y1 y2 = some r) : runE C 127 [sl y1 y2] = some r := ofR (j := 1) (F := fun s => T127 (orc C s.k) s.k y1 y2) (fun _ =>
 by kernel_rfl) (by
  unfold T127
  repeat' first | (with_reducible first | exact cC | refine cF ?_ ?_) | exact cD0 gK) h
def T126 (O : Orc) (k : Nat) (y1 : Nat) (y2 : List V) : Option V := O.L 0 126 0 [true, true, false, true] [] k [(3, ref 0), (13, sl y1 y2), (14, int .i64 (↑y1 : Int)), (15,
 int .i64 0)] [Ob.row 5 0 [] false]
theorem E126 (y1 y2) {r : V} (h : T126 (orcE C) 0 y1 y2 = some r) : runE C 126 [sl y1 y2] = some r := ofR (j := 1) (F := fun s => T126 (orc C s.k) s.k y1 y2) (fun _ =>
 by kernel_rfl) (by
  unfold T126
  repeat' first | with_reducible exact cC | exact cD0 gK) h
def T122 (O : Orc) (y1 : Int) (y2 : Nat) (y3 : List V) (y4 y5 : Int) (y6 : Nat) (y7 : List V) : Option V := need (O.R 0 146 [int .i64 y1]) fun x1 => asTup
 (some x1) fun x2 => PI.asBool x2[0]? fun x3 => bif x3 then bif (↑y2 : Int) == 19 then bif y4 == y1 then some (tup [bool (y5 == 4)]) else some (tup [bool false]) else some (tup [bool
 false]) else some (tup [bool false])
theorem E122 (y1 y2 y3 y4 y5 y6 y7) {r : V} (h : T122 (orcE C) y1 y2 y3 y4 y5 y6 y7 = some r) : runE C 122 [agg [int .i64 y1,
 sl y2 y3, int .i64 y4, int .i64 y5, sl y6 y7]] = some r := ofR (j := 1) (F := fun s => T122 (orc C s.k) y1 y2 y3 y4 y5 y6 y7) (fun _ => by kernel_rfl) (by
  unfold T122
  repeat' first | (with_reducible first | exact cC | refine cN cR fun _ => ?_ | refine cT fun _ => ?_ | refine cF ?_ ?_ | refine cB fun _ => ?_ | refine cN cC fun _ => ?_ | exact cR)) h
def T123 (O : Orc) (k : Nat) (y1 : Nat) (y2 : List V) : Option V := need (O.R 0 96 [str { data := #[(109 : UInt8), (101 : UInt8), (115 : UInt8), (115 : UInt8), (97 : UInt8),
 (103 : UInt8), (101 : UInt8)] }, sl 1 [sl y1 y2]]) fun x1 => asTup (some x1) fun x2 => asOsl x2[0]? fun x3 x4 => must (true && decide (4 ≤ (↑x3 : Int))) (O.L 0 123 0 [true, true, false, true] [] k
 [(3, ref 0), (4, int .i64 0), (13, sl 4 (List.take 4 (List.drop 0 x4))), (14, int .i64 4), (15, int .i64 0)] [Ob.row 2 0 [] false])
theorem E123 (y1 y2) {r : V} (h : T123 (orcE C) 0 y1 y2 = some r) : runE C 123 [sl y1 y2] = some r := ofR (j := 1) (F := fun s => T123 (orc C s.k) s.k y1 y2) (fun _ =>
 by kernel_rfl) (by
  unfold T123
  repeat' first | (with_reducible first | exact cC | refine cN cR fun _ => ?_ | refine cT fun _ => ?_ | refine cM ?_ | refine cO fun _ _ => ?_ | refine cN cC fun _ => ?_ | exact cR) | exact cD0 gK) h
def T95l1 (O : Orc) (m : Nat) (y1 : Nat) (y2 : List V) (y3 y4 y5 : Int) (y6 : Nat) (y7 : List V) (y8 y9 : Int) (y10 : Nat) (y11 : List V) (y12 : Nat) (y13
 : List V) (y14 : Nat) (y15 : List V) : Option V := bif decide (y4 < y3) then must (inB y4 y14) (PI.asInt .i64 y15[y4.toNat * 1]? fun x1 => must (inB y4 y6) (must (decide (y4.toNat * 1 < y7.length))
 (asSl y7[y4.toNat * 1]? fun x2 x3 => need (O.R 0 124 [sl x2 x3, int .i64 (i64.wrap (3 - x1))]) fun x4 => asTup (some x4) fun x5 => asOsl x5[0]? fun x6 x7 => must (decide (x7.length = x6 *
 1)) (must (true && (y12 + x6).ble 140737488355328 && ((y12 + x6) * 1).ble 140737488355328) (O.L 0 95 0 [true, true, true, false, true] [] m [(0, sl y1 y2), (5, ptr 0 0), (7, ref 1), (21, ref
 2), (22, int .i64 y3), (23, int .i64 (i64.wrap (y4 + 1)))] [Ob.box 108 [int .i64 y5, sl y6 y7, int .i64 y8, int .i64 y9, sl y10 y11] false, Ob.row 5 (y12 + x6) (y13 ++ x7) false,
 Ob.row 2 y14 y15 false]))))) else need (O.R 0 125 [sl y1 y2, sl y12 y13, agg [int .i64 y8, int .i64 y9, sl y10 y11]]) fun x8 => asTup (some x8) fun x9 => PI.asBool x9[0]? fun x10 => some
 (tup [bool x10])
theorem E95l1 (y1 y2 y3 y4 y5 y6 y7 y8 y9 y10 y11 y12 y13 y14 y15) {r : V} (h : T95l1 (orcE C) 0 y1 y2 y3 y4 y5 y6 y7 y8 y9 y10 y11 y12 y13 y14 y15 = some r) : loopE C 95 0 [true, true, true, false, true] [] [(0, sl y1 y2), (5, ptr 0 0), (7, ref 1), (21,
 ref 2), (22, int .i64 y3), (23, int .i64 y4)] [Ob.box 108 [int .i64 y5, sl y6 y7, int .i64 y8, int .i64 y9, sl y10 y11] false, Ob.row 5 y12 y13 false, Ob.row 2 y14 y15 false] = some r
 := ofL (j := 0) (F := fun s => T95l1 (orc C s.k) s.m y1 y2 y3 y4 y5 y6 y7 y8 y9 y10 y11 y12 y13 y14 y15) (fs0 fun _ _ => by kernel_rfl) (by
  unfold T95l1
  repeat' first | (with_reducible first | exact cC | refine cN cR fun _ => ?_ | refine cT fun _ => ?_ | refine cI fun _ => ?_ | refine cM ?_ | refine cF ?_ ?_ | refine cB fun _ => ?_ | refine cL fun _ _ => ?_ | refine cO fun _ _ => ?_ | refine cN cC fun _ => ?_ | exact cR) | exact cD0 gM) h
def T101 (O : Orc) (y1 y2 : Int) (y3 : Nat) (y4 : List V) (y5 : Nat) (y6 : List V) (y7 : Nat) (y8 : List V) : Option V := both (both (need (O.R 0 128 [sl y3
 y4]) fun x1 => asTup (some x1) fun x2 => asOsl x2[0]? fun x3 x4 => both (both (need (O.R 0 128 [sl y5 y6]) fun x5 => asTup (some x5) fun x6 => asOsl x6[0]? fun x7 x8 => need (O.R 0 128 [sl y7 y8])
 fun x9 => asTup (some x9) fun x10 => asOsl x10[0]? fun x11 x12 => must (false || x4.all flatV) (must (false || x8.all flatV) (must (false || x12.all flatV) (some (tup [int .i64 y1, int .i64 y2,
 osl x3 x4, osl x7 x8, osl x11 x12]))))) (need (O.R 0 128 [sl y5 y6]) fun x13 => asTup (some x13) fun x14 => asOsl x14[0]? fun x15 x16 => need (O.R 0 128 [sl y7 y8]) fun x17 => asTup (some
 x17) fun x18 => asOsl x18[0]? fun x19 x20 => must (false || x4.all flatV) (must (false || x16.all flatV) (must (false || x20.all flatV) (some (tup [int .i64 y1, int .i64 y2, osl x3 x4, osl
 x15 x16, osl x19 x20])))))) (need (O.R 0 128 [sl y5 y6]) fun x21 => asTup (some x21) fun x22 => asOsl x22[0]? fun x23 x24 => need (O.R 0 128 [sl y7 y8]) fun x25 => asTup (some x25) fun x26 =>
 asOsl x26[0]? fun x27 x28 => must (false || x4.all flatV) (must (false || x24.all flatV) (must (false || x28.all flatV) (some (tup [int .i64 y1, int .i64 y2, osl x3 x4, osl x23 x24, osl
 x27 x28])))))) (both (both (need (O.R 0 128 [sl y3 y4]) fun x29 => asTup (some x29) fun x30 => asOsl x30[0]? fun x31 x32 => both (need (O.R 0 128 [sl y5 y6]) fun x33 => asTup (some x33) fun x34 =>
 asOsl x34[0]? fun x35 x36 => need (O.R 0 128 [sl y7 y8]) fun x37 => asTup (some x37) fun x38 => asOsl x38[0]? fun x39 x40 => must (false || x32.all flatV) (must (false || x36.all flatV) (must (false
 || x40.all flatV) (some (tup [int .i64 y1, int .i64 y2, osl x31 x32, osl x35 x36, osl x39 x40]))))) (need (O.R 0 128 [sl y5 y6]) fun x41 => asTup (some x41) fun x42 => asOsl x42[0]? fun
 x43 x44 => need (O.R 0 128 [sl y7 y8]) fun x45 => asTup (some x45) fun x46 => asOsl x46[0]? fun x47 x48 => must (false || x32.all flatV) (must (false || x44.all flatV) (must (false || x48.all flatV)
 (some (tup [int .i64 y1, int .i64 y2, osl x31 x32, osl x43 x44, osl x47 x48])))))) (need (O.R 0 128 [sl y3 y4]) fun x49 => asTup (some x49) fun x50 => asOsl x50[0]? fun x51 x52 => need
 (O.R 0 128 [sl y5 y6]) fun x53 => asTup (some x53) fun x54 => asOsl x54[0]? fun x55 x56 => need (O.R 0 128 [sl y7 y8]) fun x57 => asTup (some x57) fun x58 => asOsl x58[0]? fun x59 x60 => must
 (false || x52.all flatV) (must (false || x56.all flatV) (must (false || x60.all flatV) (some (tup [int .i64 y1, int .i64 y2, osl x51 x52, osl x55 x56, osl x59 x60])))))) (both (need (O.R 0
 128 [sl y3 y4]) fun x61 => asTup (some x61) fun x62 => asOsl x62[0]? fun x63 x64 => need (O.R 0 128 [sl y5 y6]) fun x65 => asTup (some x65) fun x66 => asOsl x66[0]? fun x67 x68 => need (O.R 0 128
 [sl y7 y8]) fun x69 => asTup (some x69) fun x70 => asOsl x70[0]? fun x71 x72 => must (false || x64.all flatV) (must (false || x68.all flatV) (must (false || x72.all flatV) (some (tup [int .i64
 y1, int .i64 y2, osl x63 x64, osl x67 x68, osl x71 x72]))))) (need (O.R 0 128 [sl y3 y4]) fun x73 => asTup (some x73) fun x74 => asOsl x74[0]? fun x75 x76 => need (O.R 0 128 [sl y5 y6])
 fun x77 => asTup (some x77) fun x78 => asOsl x78[0]? fun x79 x80 => need (O.R 0 128 [sl y7 y8]) fun x81 => asTup (some x81) fun x82 => asOsl x82[0]? fun x83 x84 => must (false || x76.all flatV)
 (must (false || x80.all flatV) (must (false || x84.all flatV) (some (tup [int .i64 y1, int .i64 y2, osl x75 x76, osl x79 x80, osl x83 x84])))))))) (both (both (both (need (O.R 0 128 [sl
 y3 y4]) fun x85 => asTup (some x85) fun x86 => asOsl x86[0]? fun x87 x88 => both (need (O.R 0 128 [sl y5 y6]) fun x89 => asTup (some x89) fun x90 => asOsl x90[0]? fun x91 x92 => need (O.R 0 128
 [sl y7 y8]) fun x93 => asTup (some x93) fun x94 => asOsl x94[0]? fun x95 x96 => must (false || x88.all flatV) (must (false || x92.all flatV) (must (false || x96.all flatV) (some (tup [int .i64
 y1, int .i64 y2, osl x87 x88, osl x91 x92, osl x95 x96]))))) (need (O.R 0 128 [sl y5 y6]) fun x97 => asTup (some x97) fun x98 => asOsl x98[0]? fun x99 x100 => need (O.R 0 128 [sl y7 y8])
 fun x101 => asTup (some x101) fun x102 => asOsl x102[0]? fun x103 x104 => must (false || x88.all flatV) (must (false || x100.all flatV) (must (false || x104.all flatV) (some (tup [int .i64 y1,
 int .i64 y2, osl x87 x88, osl x99 x100, osl x103 x104])))))) (need (O.R 0 128 [sl y3 y4]) fun x105 => asTup (some x105) fun x106 => asOsl x106[0]? fun x107 x108 => need (O.R 0 128 [sl y5
 y6]) fun x109 => asTup (some x109) fun x110 => asOsl x110[0]? fun x111 x112 => need (O.R 0 128 [sl y7 y8]) fun x113 => asTup (some x113) fun x114 => asOsl x114[0]? fun x115 x116 => must (false ||
 x108.all flatV) (must (false || x112.all flatV) (must (false || x116.all flatV) (some (tup [int .i64 y1, int .i64 y2, osl x107 x108, osl x111 x112, osl x115 x116])))))) (need (O.R 0 128
 [sl y3 y4]) fun x117 => asTup (some x117) fun x118 => asOsl x118[0]? fun x119 x120 => need (O.R 0 128 [sl y5 y6]) fun x121 => asTup (some x121) fun x122 => asOsl x122[0]? fun x123 x124 => need
 (O.R 0 128 [sl y7 y8]) fun x125 => asTup (some x125) fun x126 => asOsl x126[0]? fun x127 x128 => must (false || x120.all flatV) (must (false || x124.all flatV) (must (false || x128.all flatV) (some
 (tup [int .i64 y1, int .i64 y2, osl x119 x120, osl x123 x124, osl x127 x128])))))) (both (both (need (O.R 0 128 [sl y3 y4]) fun x129 => asTup (some x129) fun x130 => asOsl x130[0]? fun
 x131 x132 => need (O.R 0 128 [sl y5 y6]) fun x133 => asTup (some x133) fun x134 => asOsl x134[0]? fun x135 x136 => need (O.R 0 128 [sl y7 y8]) fun x137 => asTup (some x137) fun x138 => asOsl
 x138[0]? fun x139 x140 => must (false || x132.all flatV) (must (false || x136.all flatV) (must (false || x140.all flatV) (some (tup [int .i64 y1, int .i64 y2, osl x131 x132, osl x135 x136,
 osl x139 x140]))))) (need (O.R 0 128 [sl y3 y4]) fun x141 => asTup (some x141) fun x142 => asOsl x142[0]? fun x143 x144 => need (O.R 0 128 [sl y5 y6]) fun x145 => asTup (some x145) fun x146 =>
 asOsl x146[0]? fun x147 x148 => need (O.R 0 128 [sl y7 y8]) fun x149 => asTup (some x149) fun x150 => asOsl x150[0]? fun x151 x152 => must (false || x144.all flatV) (must (false || x148.all flatV)
 (must (false || x152.all flatV) (some (tup [int .i64 y1, int .i64 y2, osl x143 x144, osl x147 x148, osl x151 x152])))))) (need (O.R 0 128 [sl y3 y4]) fun x153 => asTup (some x153) fun
 x154 => asOsl x154[0]? fun x155 x156 => need (O.R 0 128 [sl y5 y6]) fun x157 => asTup (some x157) fun x158 => asOsl x158[0]? fun x159 x160 => need (O.R 0 128 [sl y7 y8]) fun x161 => asTup (some
 x161) fun x162 => asOsl x162[0]? fun x163 x164 => must (false || x156.all flatV) (must (false || x160.all flatV) (must (false || x164.all flatV) (some (tup [int .i64 y1, int .i64 y2, osl x155
 x156, osl x159 x160, osl x163 x164])))))))
theorem E101 (y1 y2 y3 y4 y5 y6 y7 y8) {r : V} (h : T101 (orcE C) y1 y2 y3 y4 y5 y6 y7 y8 = some r) : runE C 101 [agg
 [int .i64 y1, int .i64 y2, sl y3 y4, sl y5 y6, sl y7 y8]] = some r := ofR (j := 1) (F := fun s => T101 (orc C s.k) y1 y2 y3 y4 y5 y6 y7 y8) (fun _ => by kernel_rfl) (by
  unfold T101
  repeat' first | (with_reducible first | exact cC | refine cN cR fun _ => ?_ | refine cT fun _ => ?_ | refine cM ?_ | refine cO fun _ _ => ?_ | refine cN cC fun _ => ?_ | refine cW ?_ ?_ | exact cR)) h
def T102 (O : Orc) (k : Nat) (y1 : Nat) (y2 : List V) : Option V := O.L 0 102 0 [true, true, false, true] [] k [(3, ref 0), (7, sl y1 y2), (8, int .i64 (↑y1 : Int)), (9,
 int .i64 0)] [Ob.nrow [] 78 0 []]
theorem E102 (y1 y2) {r : V} (h : T102 (orcE C) 0 y1 y2 = some r) : runE C 102 [sl y1 y2] = some r := ofR (j := 1) (F := fun s => T102 (orc C s.k) s.k y1 y2) (fun _ =>
 by kernel_rfl) (by
  unfold T102
  repeat' first | with_reducible exact cC | exact cD0 gK) h
def T103 (O : Orc) (k : Nat) (y1 : Nat) (y2 : List V) : Option V := O.L 0 103 0 [true, true, false, true] [] k [(3, ref 0), (7, sl y1 y2), (8, int .i64 (↑y1 : Int)), (9,
 int .i64 0)] [Ob.nrow [] 22 0 []]
theorem E103 (y1 y2) {r : V} (h : T103 (orcE C) 0 y1 y2 = some r) : runE C 103 [sl y1 y2] = some r := ofR (j := 1) (F := fun s => T103 (orc C s.k) s.k y1 y2) (fun _ =>
 by kernel_rfl) (by
  unfold T103
  repeat' first | with_reducible exact cC | exact cD0 gK) h
def T129 (O : Orc) (y1 : Int) (y2 : Nat) (y3 : List V) (y4 y5 : Int) (y6 : Nat) (y7 : List V) (y8 : Int) (y9 : Nat) (y10 : List V) (y11 y12 : Int) (y13 :
 Nat) (y14 : List V) : Option V := bif y1 != y8 then some (tup [bool false]) else need (O.R 0 54 [sl y2 y3, sl y9 y10]) fun x1 => asTup (some x1) fun x2 => PI.asBool x2[0]? fun x3 => bif !x3
 then some (tup [bool false]) else need (O.R 0 153 [agg [int .i64 y4, int .i64 y5, sl y6 y7], agg [int .i64 y11, int .i64 y12, sl y13 y14]]) fun x4 => asTup (some x4) fun x5 =>
 PI.asBool x5[0]? fun x6 => bif !x6 then some (tup [bool false]) else some (tup [bool true])
theorem E129 (y1 y2 y3 y4 y5 y6 y7 y8 y9 y10 y11 y12 y13 y14) {r : V} (h : T129 (orcE C) y1 y2 y3 y4 y5 y6 y7 y8 y9 y10 y11 y12 y13 y14 = some r) : runE C 129 [agg [int .i64 y1, sl y2 y3, int .i64 y4, int .i64 y5, sl y6 y7], agg [int .i64 y8, sl y9 y10,
 int .i64 y11, int .i64 y12, sl y13 y14]] = some r := ofR (j := 1) (F := fun s => T129 (orc C s.k) y1 y2 y3 y4 y5 y6 y7 y8 y9 y10 y11 y12 y13 y14) (fun _ => by kernel_rfl) (by
  unfold T129
  repeat' first | (with_reducible first | exact cC | refine cN cR fun _ => ?_ | refine cT fun _ => ?_ | refine cF ?_ ?_ | refine cB fun _ => ?_ | refine cN cC fun _ => ?_ | exact cR)) h
def T130l1 (O : Orc) (m : Nat) (y1 : Nat) (y2 : List V) (y3 y4 : Int) : Option V := bif decide (y4 < (↑y1 : Int)) then must (inB y4 y1) (PI.asInt .u8 y2[y4.toNat * 1]? fun
 x1 => bif x1 != u8.wrap y3 then some (tup [int .i64 (-1)]) else O.L 0 130 0 [true, false, true] [] m [(0, sl y1 y2), (1, int .i64 (i64.wrap (y3 + 1))), (5, int .i64
 (i64.wrap (y4 + 1)))] []) else some (tup [int .i64 y3])
theorem E130l1 (y1 y2 y3 y4) {r : V} (h : T130l1 (orcE C) 0 y1 y2 y3 y4 = some r) : loopE C 130 0 [true, false, true] [] [(0, sl y1 y2), (1, int .i64 y3), (5,
 int .i64 y4)] [] = some r := ofL (j := 0) (F := fun s => T130l1 (orc C s.k) s.m y1 y2 y3 y4) (fs0 fun _ _ => by kernel_rfl) (by
  unfold T130l1
  repeat' first | (with_reducible first | exact cC | refine cI fun _ => ?_ | refine cM ?_ | refine cF ?_ ?_) | exact cD0 gM) h
def T82l1 (O : Orc) (k m : Nat) (y1 : Nat) (y2 : List V) (y3 : Nat) (y4 : List V) (y5 y6 y7 y8 : Int) (y9 : Nat) (y10 : List V) (y11 : Nat) (y12 : List V) (y13 : Nat) (y14 : List V) (y15 : Nat) (y16 : List V) : Option V := bif decide (y6 < (↑y15 : Int)) then must (inB y6 y15) (PI.asInt .i64 y16[y6.toNat * 6 + 0]? fun x1 => must (inB x1 y1) (must (decide
 (x1.toNat * 2 + 0 < y2.length)) (O.L 0 82 2 [true, true, false, true, false, true, false, false, true, true] [m] k [(0, sl y1 y2), (1, sl y3 y4), (5, ptr 0 0), (7, int .i64 y5), (8, int .i64
 y6), (9, V.prj y2 (x1.toNat * 2 + 0)), (10, int .i64 0)] [Ob.box 46 [int .i64 y7, int .i64 y8, sl y9 y10, sl y11 y12, sl y13 y14, sl y15 y16] false]))) else some (tup [int .i64 y5])
theorem E82l1 (y1 y2 y3 y4 y5 y6 y7 y8 y9 y10 y11 y12 y13 y14 y15 y16) {r : V} (h : T82l1 (orcE C) 0 0 y1 y2 y3 y4 y5 y6 y7 y8 y9 y10 y11 y12 y13 y14 y15 y16 = some r) : loopE C 82 0 [true, true, false, true] [] [(0, sl y1 y2), (1, sl y3 y4), (5,
 ptr 0 0), (7, int .i64 y5), (8, int .i64 y6)] [Ob.box 46 [int .i64 y7, int .i64 y8, sl y9 y10, sl y11 y12, sl y13 y14, sl y15 y16] false] = some r := ofL (j := 0) (F := fun s =>
 T82l1 (orc C s.k) s.k s.m y1 y2 y3 y4 y5 y6 y7 y8 y9 y10 y11 y12 y13 y14 y15 y16) (fs0 fun _ _ => by kernel_rfl) (by
  unfold T82l1
  repeat' first | (with_reducible first | exact cC | refine cI fun _ => ?_ | refine cM ?_ | refine cF ?_ ?_) | exact cD1 gK gM) h
def T131 (O : Orc) (y1 y2 : Int) (y3 : Nat) (y4 : List V) (y5 : Int) : Option V := need (O.R 0 31 [sl y3 y4, int .i64 y5]) fun x1 => asTup (some x1) fun x2
 => PI.asInt .i64 x2[0]? fun x3 => bif decide (x3 < 0) then some (tup [int .i64 (-1)]) else some (tup [int .i64 x3])
theorem E131 (y1 y2 y3 y4 y5) {r : V} (h : T131 (orcE C) y1 y2 y3 y4 y5 = some r) : runE C 131 [agg [int .i64 y1, int .i64 y2, sl y3 y4], int
 .i64 y5] = some r := ofR (j := 1) (F := fun s => T131 (orc C s.k) y1 y2 y3 y4 y5) (fun _ => by kernel_rfl) (by
  unfold T131
  repeat' first | (with_reducible first | exact cC | refine cN cR fun _ => ?_ | refine cT fun _ => ?_ | refine cI fun _ => ?_ | refine cF ?_ ?_ | refine cN cC fun _ => ?_ | exact cR)) h
def T142 (O : Orc) (y1 y2 : Int) (y3 : Nat) (y4 : List V) : Option V := need (O.R 0 43 [sl y3 y4]) fun x1 => asTup (some x1) fun x2 => asOsl x2[0]? fun x3 x4
 => some (tup [int .i64 y1, int .i64 y2, osl x3 x4])
theorem E142 (y1 y2 y3 y4) {r : V} (h : T142 (orcE C) y1 y2 y3 y4 = some r) : runE C 142 [agg [int .i64 y1, int .i64 y2, sl y3 y4]] = some r := ofR (j
 := 1) (F := fun s => T142 (orc C s.k) y1 y2 y3 y4) (fun _ => by kernel_rfl) (by
  unfold T142
  repeat' first | (with_reducible first | exact cC | refine cN cR fun _ => ?_ | refine cT fun _ => ?_ | refine cO fun _ _ => ?_ | refine cN cC fun _ => ?_ | exact cR)) h
def T72l2 (O : Orc) (m q0 : Nat) (y1 : Nat) (y2 : List V) (y3 y4 : Int) : Option V := bif decide (y4 < y3) then must (inB y4 y1) (must (decide (y4.toNat * 2 + 0 < y2.length))
 (must (inB y3 y1) (must (decide (y3.toNat * 2 + 0 < y2.length)) (asSl y2[y4.toNat * 2 + 0]? fun x1 x2 => asSl y2[y3.toNat * 2 + 0]? fun x3 x4 => need (O.R 0 37 [sl x1 x2, sl x3 x4]) fun x5 =>
 asTup (some x5) fun x6 => PI.asBool x6[0]? fun x7 => bif x7 then some (tup [int .i64 7]) else O.L 0 72 2 [true, true, true, false, true, false, true, false, false, true, true, true] [q0] m [(0,
 sl y1 y2), (3, int .i64 y3), (4, int .i64 (i64.wrap (y4 + 1)))] [])))) else O.L 0 72 0 [true, true, true, false, true] [] q0 [(0, sl y1 y2), (3, int .i64 (i64.wrap (y3 +
 1)))] []
theorem E72l2 (y1 y2 y3 y4) {r : V} (h : T72l2 (orcE C) 0 0 y1 y2 y3 y4 = some r) : loopE C 72 2 [true, true, true, false, true, false, true, false, false, true,
 true, true] [0] [(0, sl y1 y2), (3, int .i64 y3), (4, int .i64 y4)] [] = some r := ofL (j := 0) (F := fun s => T72l2 (orc C s.k) s.m (s.fs.getD 0 0) y1 y2 y3 y4) (fs1 fun _ _ _ => by
 kernel_rfl) (by
  unfold T72l2
  repeat' first | (with_reducible first | exact cC | refine cN cR fun _ => ?_ | refine cT fun _ => ?_ | refine cM ?_ | refine cF ?_ ?_ | refine cB fun _ => ?_ | refine cL fun _ _ => ?_ | refine cN cC fun _ => ?_ | exact cR) | exact cD0 (gF (i := 0) (by decide)) | exact cD1 gM (gF (i := 0) (by decide))) h
def T76l1 (O : Orc) (m : Nat) (y1 : Nat) (y2 : List V) (y3 : Nat) (y4 : List V) (y5 : Int) : Option V := bif decide (y5 < (↑y1 : Int)) then bif decide (y5 < (↑y3 : Int)) then must
 (inB y5 y1) (PI.asInt .u8 y2[y5.toNat * 1]? fun x1 => must (inB y5 y3) (PI.asInt .u8 y4[y5.toNat * 1]? fun x2 => bif decide (x1 < x2) then some (tup [int .i64 (-1)]) else must (inB y5 y1)
 (PI.asInt .u8 y2[y5.toNat * 1]? fun x3 => must (inB y5 y3) (PI.asInt .u8 y4[y5.toNat * 1]? fun x4 => bif decide (x3 > x4) then some (tup [int .i64 1]) else O.L 0 76 0 [true, false, true] [] m [(0,
 sl y1 y2), (1, sl y3 y4), (5, int .i64 (i64.wrap (y5 + 1)))] [])))) else bif decide ((↑y1 : Int) < (↑y3 : Int)) then some (tup [int .i64 (-1)]) else bif decide ((↑y1 : Int) > (↑y3 :
 Int)) then some (tup [int .i64 1]) else some (tup [int .i64 0]) else bif decide ((↑y1 : Int) < (↑y3 : Int)) then some (tup [int .i64 (-1)]) else bif decide ((↑y1 : Int) > (↑y3 : Int)) then
 some (tup [int .i64 1]) else some (tup [int .i64 0])
theorem E76l1 (y1 y2 y3 y4 y5) {r : V} (h : T76l1 (orcE C) 0 y1 y2 y3 y4 y5 = some r) : loopE C 76 0 [true, false, true] [] [(0, sl y1 y2), (1, sl
 y3 y4), (5, int .i64 y5)] [] = some r := ofL (j := 0) (F := fun s => T76l1 (orc C s.k) s.m y1 y2 y3 y4 y5) (fs0 fun _ _ => by kernel_rfl) (by
  unfold T76l1
  repeat' first | (with_reducible first | exact cC | refine cI fun _ => ?_ | refine cM ?_ | refine cF ?_ ?_) | exact cD0 gM) h
def T79l1 (O : Orc) (m : Nat) (y1 y2 : Int) (y3 : Nat) (y4 : List V) : Option V := bif decide (y2 ≥ 0) then must (decide (0 ≤ u64.wrap (i64.wrap (8 *
 y2)))) (must (true && (y3 + 1).ble 140737488355328 && ((y3 + 1) * 1).ble 140737488355328) (O.L 0 79 0 [true, true, false, true] [] m [(0, int .i64 y1), (3, ref 0), (4, int .i64 (i64.wrap
 (y2 - 1)))] [Ob.row 5 (y3 + 1) (y4 ++ [int .u8 (u8.wrap (y1.fdiv (2 ^ min (u64.wrap (i64.wrap (8 * y2))).toNat 64)))]) false])) else some (tup [sl y3 y4])
theorem E79l1 (y1 y2 y3 y4) {r : V} (h : T79l1 (orcE C) 0 y1 y2 y3 y4 = some r) : loopE C 79 0 [true, true, false, true] [] [(0, int .i64 y1), (3, ref 0), (4,
 int .i64 y2)] [Ob.row 5 y3 y4 false] = some r := ofL (j := 0) (F := fun s => T79l1 (orc C s.k) s.m y1 y2 y3 y4) (fs0 fun _ _ => by kernel_rfl) (by
  unfold T79l1
  repeat' first | (with_reducible first | exact cC | refine cM ?_ | refine cF ?_ ?_) | exact cD0 gM) h
def T78l1 (O : Orc) (m : Nat) (y1 : Nat) (y2 : List V) (y3 : Int) (y4 : Nat) (y5 : List V) : Option V := bif decide (y3 < (↑y1 : Int)) then must (inB y3 y1) (must (decide
 (y3.toNat * 1 < y2.length)) (asSl y2[y3.toNat * 1]? fun x1 x2 => must (inB y3 y1) (must (decide (y3.toNat * 1 < y2.length)) (must (true && (y4 + 1).ble 140737488355328 && ((y4 + 1) * 1).ble
 140737488355328) (asSl y2[y3.toNat * 1]? fun x3 x4 => must (decide (x4.length = x3 * 1)) (must (true && (y4 + 1 + x3).ble 140737488355328 && ((y4 + 1 + x3) * 1).ble 140737488355328) (O.L 0 78 0 [true,
 true, false, true] [] m [(0, sl y1 y2), (3, ref 0), (4, int .i64 (i64.wrap (y3 + 1)))] [Ob.row 5 (y4 + 1 + x3) (y5 ++ [int .u8 (u8.wrap (↑x1 : Int))] ++ x4) false]))))))) else
 must (false || y5.all flatV) (some (tup [osl y4 y5]))
theorem E78l1 (y1 y2 y3 y4 y5) {r : V} (h : T78l1 (orcE C) 0 y1 y2 y3 y4 y5 = some r) : loopE C 78 0 [true, true, false, true] [] [(0, sl y1 y2), (3,
 ref 0), (4, int .i64 y3)] [Ob.row 5 y4 y5 false] = some r := ofL (j := 0) (F := fun s => T78l1 (orc C s.k) s.m y1 y2 y3 y4 y5) (fs0 fun _ _ => by kernel_rfl) (by
  unfold T78l1
  repeat' first | (with_reducible first | exact cC | refine cM ?_ | refine cF ?_ ?_ | refine cL fun _ _ => ?_) | exact cD0 gM) h
def T117 (O : Orc) (k : Nat) (y1 : Nat) (y2 : List V) : Option V := need (O.R 0 136 []) fun x1 => PI.asAgg (some x1) fun x2 => must (x2.length.beq 64 && true && (0 +
 x2.length).ble 64 && flatB C 148 x2) (need (O.R 0 137 []) fun x3 => asTup (some x3) fun x4 => PI.asInt .i64 x4[0]? fun x5 => PI.asInt .i64 x4[1]? fun x6 => PI.asInt .i64 x4[2]? fun x7 => PI.asInt .i64
 x4[3]? fun x8 => PI.asInt .i64 x4[4]? fun x9 => PI.asInt .i64 x4[5]? fun x10 => PI.asInt .i64 x4[6]? fun x11 => PI.asInt .i64 x4[7]? fun x12 => need (O.R 0 138 [sl y1 y2]) fun x13 => asTup (some
 x13) fun x14 => asSl x14[0]? fun x15 x16 => O.L 0 117 0 [true, true, true, true, false, true] [] k [(3, ptr 0 0), (4, ptr 1 0), (5, sl x15 x16), (6, int .i64 0)] [Ob.box 148 (splice [int
 .i64 0, int .i64 0, int .i64 0, int .i64 0, int .i64 0, int .i64 0, int .i64 0, int .i64 0, int .i64 0, int .i64 0, int .i64 0, int .i64 0, int .i64 0, int .i64 0, int .i64
 0, int .i64 0, int .i64 0, int .i64 0, int .i64 0, int .i64 0, int .i64 0, int .i64 0, int .i64 0, int .i64 0, int .i64 0, int .i64 0, int .i64 0, int .i64 0, int .i64 0,
 int .i64 0, int .i64 0, int .i64 0, int .i64 0, int .i64 0, int .i64 0, int .i64 0, int .i64 0, int .i64 0, int .i64 0, int .i64 0, int .i64 0, int .i64 0, int .i64 0,
 int .i64 0, int .i64 0, int .i64 0, int .i64 0, int .i64 0, int .i64 0, int .i64 0, int .i64 0, int .i64 0, int .i64 0, int .i64 0, int .i64 0, int .i64 0, int .i64 0,
 int .i64 0, int .i64 0, int .i64 0, int .i64 0, int .i64 0, int .i64 0, int .i64 0] 0 x2) false, Ob.box 150 [int .i64 x5, int .i64 x6, int .i64 x7, int .i64 x8, int .i64 x9,
 int .i64 x10, int .i64 x11, int .i64 x12] false])
theorem E117 (y1 y2) {r : V} (h : T117 (orcE C) 0 y1 y2 = some r) : runE C 117 [sl y1 y2] = some r := ofR (j := 1) (F := fun s => T117 (orc C s.k) s.k y1 y2) (fun _ =>
 by kernel_rfl) (by
  unfold T117
  repeat' first | (with_reducible first | exact cC | refine cN cR fun _ => ?_ | refine cT fun _ => ?_ | refine cI fun _ => ?_ | refine cM ?_ | refine cL fun _ _ => ?_ | refine cA fun _ => ?_ | refine cN cC fun _ => ?_ | exact cR) | exact cD0 gK) h
def T113 (O : Orc) (y1 : Int) (y2 : Nat) (y3 : List V) (y4 y5 : Int) (y6 : Nat) (y7 : List V) : Option V := need (O.R 0 74 [int .i64 y1, int .i64 0, int
 .i64 3]) fun x1 => asTup (some x1) fun x2 => PI.asBool x2[0]? fun x3 => bif !x3 then some (tup [bool false]) else bif (↑y2 : Int) != 19 then some (tup [bool false]) else need (O.R 0 132 [agg
 [int .i64 y4, int .i64 y5, sl y6 y7]]) fun x4 => asTup (some x4) fun x5 => PI.asBool x5[0]? fun x6 => bif !x6 then some (tup [bool false]) else bif y4 == y1 then some (tup [bool (y5 ==
 4)]) else some (tup [bool false])
theorem E113 (y1 y2 y3 y4 y5 y6 y7) {r : V} (h : T113 (orcE C) y1 y2 y3 y4 y5 y6 y7 = some r) : runE C 113 [agg [int .i64 y1,
 sl y2 y3, int .i64 y4, int .i64 y5, sl y6 y7]] = some r := ofR (j := 1) (F := fun s => T113 (orc C s.k) y1 y2 y3 y4 y5 y6 y7) (fun _ => by kernel_rfl) (by
  unfold T113
  repeat' first | (with_reducible first | exact cC | refine cN cR fun _ => ?_ | refine cT fun _ => ?_ | refine cF ?_ ?_ | refine cB fun _ => ?_ | refine cN cC fun _ => ?_ | exact cR)) h
def T114 (O : Orc) (k : Nat) (y1 : Nat) (y2 : List V) : Option V := need (O.R 0 77 [str { data := #[(109 : UInt8), (101 : UInt8), (115 : UInt8), (115 : UInt8), (97 : UInt8),
 (103 : UInt8), (101 : UInt8)] }, sl y1 y2]) fun x1 => asTup (some x1) fun x2 => asOsl x2[0]? fun x3 x4 => O.L 0 114 0 [true, true, true, true, false, true] [] k [(3, ref 0), (4, ref 1), (5,
 int .i64 0), (6, int .i64 0)] [Ob.row 5 x3 x4 false, Ob.row 2 0 [] false]
theorem E114 (y1 y2) {r : V} (h : T114 (orcE C) 0 y1 y2 = some r) : runE C 114 [sl y1 y2] = some r := ofR (j := 1) (F := fun s => T114 (orc C s.k) s.k y1 y2) (fun _ =>
 by kernel_rfl) (by
  unfold T114
  repeat' first | (with_reducible first | exact cC | refine cN cR fun _ => ?_ | refine cT fun _ => ?_ | refine cO fun _ _ => ?_ | refine cN cC fun _ => ?_ | exact cR) | exact cD0 gK) h
def T75l1 (O : Orc) (m : Nat) (y1 : Nat) (y2 : List V) (y3 y4 : Int) (y5 : Nat) (y6 : List V) (y7 y8 : Int) (y9 : Nat) (y10 : List V) (y11 : Nat) (y12 : List V) (y13 : Nat) (y14 : List V) : Option V := bif decide (y3 < 19) then must (inB y3 y5) (must (decide (y3.toNat * 1 < y6.length)) (asSl y6[y3.toNat * 1]? fun x1 x2 => bif (↑x1 : Int) != 32 then some
 (tup [bool false]) else must (inB y3 y5) (must (decide (y3.toNat * 1 < y6.length)) (must (inB y3 y11) (PI.asInt .i64 y12[y3.toNat * 1]? fun x3 => asSl y6[y3.toNat * 1]? fun x4 x5 => need (O.R 0
 115 [sl x4 x5, int .i64 (i64.wrap (3 - x3))]) fun x6 => asTup (some x6) fun x7 => asOsl x7[0]? fun x8 x9 => must (decide (x9.length = x8 * 1)) (must (true && (y13 + x8).ble 140737488355328
 && ((y13 + x8) * 1).ble 140737488355328) (O.L 0 75 0 [true, true, true, true, false, true] [] m [(0, sl y1 y2), (5, ptr 0 0), (7, ref 1), (8, ref 2), (9, int .i64 (i64.wrap (y3 +
 1)))] [Ob.box 108 [int .i64 y4, sl y5 y6, int .i64 y7, int .i64 y8, sl y9 y10] false, Ob.row 2 y11 y12 false, Ob.row 5 (y13 + x8) (y14 ++ x9) false]))))))) else need (O.R 0 116 [sl y1 y2,
 sl y13 y14, agg [int .i64 y7, int .i64 y8, sl y9 y10]]) fun x10 => asTup (some x10) fun x11 => PI.asBool x11[0]? fun x12 => some (tup [bool x12])
theorem E75l1 (y1 y2 y3 y4 y5 y6 y7 y8 y9 y10 y11 y12 y13 y14) {r : V} (h :
 T75l1 (orcE C) 0 y1 y2 y3 y4 y5 y6 y7 y8 y9 y10 y11 y12 y13 y14 = some r) : loopE C 75 0 [true, true, true, true, false, true] [] [(0, sl y1 y2), (5, ptr 0 0), (7, ref 1), (8, ref 2),
 (9, int .i64 y3)] [Ob.box 108 [int .i64 y4, sl y5 y6, int .i64 y7, int .i64 y8, sl y9 y10] false, Ob.row 2 y11 y12 false, Ob.row 5 y13 y14 false] = some r := ofL (j := 0) (F := fun s =>
 T75l1 (orc C s.k) s.m y1 y2 y3 y4 y5 y6 y7 y8 y9 y10 y11 y12 y13 y14) (fs0 fun _ _ => by kernel_rfl) (by
  unfold T75l1
  repeat' first | (with_reducible first | exact cC | refine cN cR fun _ => ?_ | refine cT fun _ => ?_ | refine cI fun _ => ?_ | refine cM ?_ | refine cF ?_ ?_ | refine cB fun _ => ?_ | refine cL fun _ _ => ?_ | refine cO fun _ _ => ?_ | refine cN cC fun _ => ?_ | exact cR) | exact cD0 gM) h
def T84l1 (O : Orc) (m : Nat) (y1 : Nat) (y2 : List V) (y3 : Int) (y4 : Nat) (y5 : List V) : Option V := bif decide (y3 < (↑y1 : Int)) then must (inB y3 y1) (must (decide
 (y3.toNat * 2 + 0 < y2.length)) (must (inB y3 y1) (PI.asInt .i64 y2[y3.toNat * 2 + 1]? fun x1 => asSl y2[y3.toNat * 2 + 0]? fun x2 x3 => must (decide (x3.length = x2 * 1)) (must (true && (0 + x2).ble
 140737488355328 && ((0 + x2) * 1).ble 140737488355328) (must (true && (y4 + 1).ble 140737488355328 && ((y4 + 1) * 32).ble 140737488355328) (O.L 0 84 0 [true, true, false, true] [] m [(0, sl y1 y2),
 (3, ref 0), (4, int .i64 (i64.wrap (y3 + 1)))] [Ob.row 78 (y4 + 1) (y5 ++ [sl (0 + x2) x3, int .i64 x1]) false])))))) else some (tup [osl y4 y5])
theorem E84l1 (y1 y2 y3 y4 y5) {r : V} (h : T84l1 (orcE C) 0 y1 y2 y3 y4 y5 = some r) : loopE C 84 0 [true, true, false, true] [] [(0, sl y1 y2), (3,
 ref 0), (4, int .i64 y3)] [Ob.row 78 y4 y5 false] = some r := ofL (j := 0) (F := fun s => T84l1 (orc C s.k) s.m y1 y2 y3 y4 y5) (fs0 fun _ _ => by kernel_rfl) (by
  unfold T84l1
  repeat' first | (with_reducible first | exact cC | refine cI fun _ => ?_ | refine cM ?_ | refine cF ?_ ?_ | refine cL fun _ _ => ?_) | exact cD0 gM) h
def T85l1 (O : Orc) (m : Nat) (y1 : Nat) (y2 : List V) (y3 : Int) (y4 : Nat) (y5 : List V) : Option V := bif decide (y3 < (↑y1 : Int)) then must (inB y3 y1) (must (decide
 (y3.toNat * 1 < y2.length)) (asSl y2[y3.toNat * 1]? fun x1 x2 => must (decide (x2.length = x1 * 1)) (must (true && (0 + x1).ble 140737488355328 && ((0 + x1) * 1).ble 140737488355328) (must (true &&
 (y4 + 1).ble 140737488355328 && ((y4 + 1) * 24).ble 140737488355328) (O.L 0 85 0 [true, true, false, true] [] m [(0, sl y1 y2), (3, ref 0), (4, int .i64 (i64.wrap (y3 + 1)))] [Ob.row 22
 (y4 + 1) (y5 ++ [sl (0 + x1) x2]) false]))))) else some (tup [osl y4 y5])
theorem E85l1 (y1 y2 y3 y4 y5) {r : V} (h : T85l1 (orcE C) 0 y1 y2 y3 y4 y5 = some r) : loopE C 85 0 [true, true, false, true] [] [(0, sl y1 y2), (3,
 ref 0), (4, int .i64 y3)] [Ob.row 22 y4 y5 false] = some r := ofL (j := 0) (F := fun s => T85l1 (orc C s.k) s.m y1 y2 y3 y4 y5) (fs0 fun _ _ => by kernel_rfl) (by
  unfold T85l1
  repeat' first | (with_reducible first | exact cC | refine cM ?_ | refine cF ?_ ?_ | refine cL fun _ _ => ?_) | exact cD0 gM) h
def T121l1 (O : Orc) (m : Nat) (y1 : Nat) (y2 : List V) (y3 y4 : Int) : Option V := bif decide (y4 < y3) then must (inB y4 y1) (must (decide (y4.toNat * 1 < y2.length))
 (asSl y2[y4.toNat * 1]? fun x1 x2 => need (O.R 0 93 [sl x1 x2]) fun x3 => asTup (some x3) fun x4 => PI.asBool x4[0]? fun x5 => bif x5 then some (tup [int .i64 y4]) else O.L 0 121 0 [true, false,
 true] [] m [(0, sl y1 y2), (1, fn 93 []), (7, int .i64 y3), (8, int .i64 (i64.wrap (y4 + 1)))] [])) else some (tup [int .i64 (-1)])
theorem E121l1 (y1 y2 y3 y4) {r : V} (h : T121l1 (orcE C) 0 y1 y2 y3 y4 = some r) : loopE C 121 0 [true, false, true] [] [(0, sl y1 y2), (1, fn 93 []), (7,
 int .i64 y3), (8, int .i64 y4)] [] = some r := ofL (j := 0) (F := fun s => T121l1 (orc C s.k) s.m y1 y2 y3 y4) (fs0 fun _ _ => by kernel_rfl) (by
  unfold T121l1
  repeat' first | (with_reducible first | exact cC | refine cN cR fun _ => ?_ | refine cT fun _ => ?_ | refine cM ?_ | refine cF ?_ ?_ | refine cB fun _ => ?_ | refine cL fun _ _ => ?_ | refine cN cC fun _ => ?_ | exact cR) | exact cD0 gM) h
def T144 (O : Orc) (k : Nat) (y1 : Nat) (y2 : List V) (y3 : Nat) (y4 : List V) : Option V := O.L 0 144 0 [true, false, true] [] k [(0, sl y1 y2), (1, fn 145 [pin [sl y3
 y4] 0]), (7, int .i64 (↑y1 : Int)), (8, int .i64 0)] []
theorem E144 (y1 y2 y3 y4) {r : V} (h : T144 (orcE C) 0 y1 y2 y3 y4 = some r) : runE C 144 [sl y1 y2, fn 145 [pin [sl y3 y4] 0]] = some r := ofR (j :=
 1) (F := fun s => T144 (orc C s.k) s.k y1 y2 y3 y4) (fun _ => by kernel_rfl) (by
  unfold T144
  repeat' first | with_reducible exact cC | exact cD0 gK) h
def T121s2 (O : Orc) (k : Nat) (y1 : Nat) (y2 : List V) : Option V := O.L 0 121 0 [true, false, true] [] k [(0, sl y1 y2), (1, fn 143 []), (7, int .i64 (↑y1 : Int)), (8,
 int .i64 0)] []
theorem E121s2 (y1 y2) {r : V} (h : T121s2 (orcE C) 0 y1 y2 = some r) : runE C 121 [sl y1 y2, fn 143 []] = some r := ofR (j := 1) (F := fun s => T121s2 (orc C s.k) s.k y1 y2) (fun _ => by kernel_rfl) (by
  unfold T121s2
  repeat' first | with_reducible exact cC | exact cD0 gK) h
def T127l1 (O : Orc) (m : Nat) (y1 : Nat) (y2 : List V) (y3 y4 : Int) (y5 : Nat) (y6 : List V) : Option V := bif decide (y4 < y3) then must (inB y4 y1) (must (decide
 (y4.toNat * 1 < y2.length)) (asSl y2[y4.toNat * 1]? fun x1 x2 => bif decide ((↑x1 : Int) > 200) then some (tup [sl 0 [], bool false]) else asSl y2[y4.toNat * 1]? fun x3 x4 => bif decide
 (i64.wrap (i64.wrap ((↑y5 : Int) + 1) + (↑x3 : Int)) > 4000) then some (tup [sl 0 [], bool false]) else asSl y2[y4.toNat * 1]? fun x5 x6 => must (true && (y5 + 1).ble
 140737488355328 && ((y5 + 1) * 1).ble 140737488355328) (asSl y2[y4.toNat * 1]? fun x7 x8 => must (decide (x8.length = x7 * 1)) (must (true && (y5 + 1 + x7).ble 140737488355328 && ((y5 + 1 + x7) *
 1).ble 140737488355328) (O.L 0 127 0 [true, true, true, false, true] [] m [(4, ref 0), (11, sl y1 y2), (12, int .i64 y3), (13, int .i64 (i64.wrap (y4 + 1)))] [Ob.row 5 (y5 + 1 + x7)
 (y6 ++ [int .u8 (u8.wrap (↑x5 : Int))] ++ x8) false]))))) else some (tup [sl y5 y6, bool true])
theorem E127l1 (y1 y2 y3 y4 y5 y6) {r : V} (h : T127l1 (orcE C) 0 y1 y2 y3 y4 y5 y6 = some r) : loopE C 127 0 [true, true, true, false, true]
 [] [(4, ref 0), (11, sl y1 y2), (12, int .i64 y3), (13, int .i64 y4)] [Ob.row 5 y5 y6 false] = some r := ofL (j := 0) (F := fun s => T127l1 (orc C s.k) s.m y1 y2 y3 y4 y5 y6) (fs0 fun
 _ _ => by kernel_rfl) (by
  unfold T127l1
  repeat' first | (with_reducible first | exact cC | refine cM ?_ | refine cF ?_ ?_ | refine cL fun _ _ => ?_) | exact cD0 gM) h
def T126l1 (O : Orc) (k m : Nat) (y1 : Nat) (y2 : List V) (y3 y4 : Int) (y5 : Nat) (y6 : List V) : Option V := bif decide (y4 < y3) then must (inB y4 y1) (must (decide
 (y4.toNat * 1 < y2.length)) (asSl y2[y4.toNat * 1]? fun x1 x2 => must (decide (x2.length = x1 * 1)) (must (true && (y5 + x1).ble 140737488355328 && ((y5 + x1) * 1).ble 140737488355328) (O.L 0 126 0
 [true, true, false, true] [] m [(3, ref 0), (13, sl y1 y2), (14, int .i64 y3), (15, int .i64 (i64.wrap (y4 + 1)))] [Ob.row 5 (y5 + x1) (y6 ++ x2) false])))) else must (true && (y5 +
 1).ble 140737488355328 && ((y5 + 1) * 1).ble 140737488355328) (O.L 0 126 2 [true, true, true, true, true, false] [] k [(3, ref 0), (6, int .u64 (u64.wrap (u64.wrap (↑y5 : Int) *
 8)))] [Ob.row 5 (y5 + 1) (y6 ++ [int .u8 128]) false])
theorem E126l1 (y1 y2 y3 y4 y5 y6) {r : V} (h : T126l1 (orcE C) 0 0 y1 y2 y3 y4 y5 y6 = some r) : loopE C 126 0 [true, true, false, true] [] [(3,
 ref 0), (13, sl y1 y2), (14, int .i64 y3), (15, int .i64 y4)] [Ob.row 5 y5 y6 false] = some r := ofL (j := 0) (F := fun s => T126l1 (orc C s.k) s.k s.m y1 y2 y3 y4 y5 y6) (fs0 fun _ _ =>
 by kernel_rfl) (by
  unfold T126l1
  repeat' first | (with_reducible first | exact cC | refine cM ?_ | refine cF ?_ ?_ | refine cL fun _ _ => ?_) | exact cD0 gK | exact cD0 gM) h
def T146 (O : Orc) (y1 : Int) : Option V := need (O.R 0 91 [int .i64 y1, int .i64 0, int .i64 3]) fun x1 => asTup (some x1) fun x2 => PI.asBool x2[0]? fun x3 =>
 some (tup [bool x3])
theorem E146 (y1) {r : V} (h : T146 (orcE C) y1 = some r) : runE C 146 [int .i64 y1] = some r := ofR (j := 1) (F := fun s => T146 (orc C s.k) y1) (fun _ => by kernel_rfl) (by
  unfold T146
  repeat' first | (with_reducible first | exact cC | refine cN cR fun _ => ?_ | refine cT fun _ => ?_ | refine cB fun _ => ?_ | refine cN cC fun _ => ?_ | exact cR)) h
def T123l1 (O : Orc) (k m : Nat) (y1 : Int) (y2 : Nat) (y3 : List V) (y4 y5 : Int) (y6 : Nat) (y7 : List V) : Option V := bif decide (y5 < y4) then must (inB y5 y2)
 (PI.asInt .u8 y3[y5.toNat * 1]? fun x1 => O.L 0 123 2 [true, true, false, true, false, true, true, false, false, true, true] [m] k [(3, ref 0), (4, int .i64 y1), (6, int .u8 x1), (7, int .i64
 6), (13, sl y2 y3), (14, int .i64 y4), (15, int .i64 y5)] [Ob.row 2 y6 y7 false]) else must (true && (y6 + 3).ble 140737488355328 && ((y6 + 3) * 8).ble 140737488355328) (must (false || (y7 ++
 [int .i64 (i64.wrap (y1.tdiv 16)), int .i64 ((i64.wrap (y1.tdiv 4)).tmod 4), int .i64 (y1.tmod 4)]).all flatV) (some (tup [osl (y6 + 3) (y7 ++ [int .i64 (i64.wrap
 (y1.tdiv 16)), int .i64 ((i64.wrap (y1.tdiv 4)).tmod 4), int .i64 (y1.tmod 4)])])))
theorem E123l1 (y1 y2 y3 y4 y5 y6 y7) {r : V} (h : T123l1 (orcE C) 0 0 y1 y2 y3 y4 y5 y6 y7 = some r) : loopE C 123 0 [true, true, false,
 true] [] [(3, ref 0), (4, int .i64 y1), (13, sl y2 y3), (14, int .i64 y4), (15, int .i64 y5)] [Ob.row 2 y6 y7 false] = some r := ofL (j := 0) (F := fun s => T123l1 (orc C s.k) s.k s.m y1
 y2 y3 y4 y5 y6 y7) (fs0 fun _ _ => by kernel_rfl) (by
  unfold T123l1
  repeat' first | (with_reducible first | exact cC | refine cI fun _ => ?_ | refine cM ?_ | refine cF ?_ ?_) | exact cD1 gK gM) h
def T124 (O : Orc) (k : Nat) (y1 : Nat) (y2 : List V) (y3 : Int) : Option V := need (O.R 0 147 [sl y1 y2]) fun x1 => asTup (some x1) fun x2 => asOsl x2[0]? fun x3 x4 => O.L 0
 124 0 [true, true, false, true] [] k [(0, ref 0), (7, int .i64 y3), (8, int .i64 0)] [Ob.row 5 x3 x4 false]
theorem E124 (y1 y2 y3) {r : V} (h : T124 (orcE C) 0 y1 y2 y3 = some r) : runE C 124 [sl y1 y2, int .i64 y3] = some r := ofR (j := 1) (F := fun s => T124 (orc C s.k) s.k y1 y2 y3) (fun _ => by kernel_rfl) (by
  unfold T124
  repeat' first | (with_reducible first | exact cC | refine cN cR fun _ => ?_ | refine cT fun _ => ?_ | refine cO fun _ _ => ?_ | refine cN cC fun _ => ?_ | exact cR) | exact cD0 gK) h
def T125 (O : Orc) (k : Nat) (y1 : Nat) (y2 : List V) (y3 : Nat) (y4 : List V) (y5 y6 : Int) (y7 : Nat) (y8 : List V) : Option V := need (O.R 0 148 [agg [int .i64 y5,
 int .i64 y6, sl y7 y8]]) fun x1 => asTup (some x1) fun x2 => PI.asBool x2[0]? fun x3 => bif !x3 then some (tup [bool false]) else need (O.R 0 149 [sl y3 y4]) fun x4 => asTup (some x4) fun x5
 => asOsl x5[0]? fun x6 x7 => need (O.R 0 150 [int .i64 y6, int .i64 y5]) fun x8 => asTup (some x8) fun x9 => asOsl x9[0]? fun x10 x11 => O.L 0 125 0 [true, true, true, false, true] [] k [(0, sl
 y1 y2), (5, ptr 0 0), (7, ref 1), (19, ref 2), (20, int .i64 (↑x10 : Int)), (21, int .i64 0)] [Ob.box 106 [int .i64 y5, int .i64 y6, sl y7 y8] false, Ob.row 5 x6 x7 false, Ob.row 4 x10
 x11 false]
theorem E125 (y1 y2 y3 y4 y5 y6 y7 y8) {r : V} (h : T125 (orcE C) 0 y1 y2 y3 y4 y5 y6 y7 y8 = some r) : runE C 125 [sl y1
 y2, sl y3 y4, agg [int .i64 y5, int .i64 y6, sl y7 y8]] = some r := ofR (j := 1) (F := fun s => T125 (orc C s.k) s.k y1 y2 y3 y4 y5 y6 y7 y8) (fun _ => by kernel_rfl) (by
  unfold T125
  repeat' first | (with_reducible first | exact cC | refine cN cR fun _ => ?_ | refine cT fun _ => ?_ | refine cF ?_ ?_ | refine cB fun _ => ?_ | refine cO fun _ _ => ?_ | refine cN cC fun _ => ?_ | exact cR) | exact cD0 gK) h
def T128 (O : Orc) (y1 : Nat) (y2 : List V) : Option V := bif y1.beq (OfNat.ofNat 0) then both (some (tup [osl 0 []])) (must (decide (y2.length = y1 * 1)) (must
 (true && (0 + y1).ble 140737488355328 && ((0 + y1) * 1).ble 140737488355328) (must (false || y2.all flatV) (some (tup [osl (0 + y1) y2]))))) else must (decide (y2.length = y1 * 1)) (must (true &&
 (0 + y1).ble 140737488355328 && ((0 + y1) * 1).ble 140737488355328) (must (false || y2.all flatV) (some (tup [osl (0 + y1) y2]))))
theorem E128 (y1 y2) {r : V} (h : T128 (orcE C) y1 y2 = some r) : runE C 128 [sl y1 y2] = some r := ofR (j := 1) (F := fun s => T128 (orc C s.k) y1 y2) (fun _ =>
 by kernel_rfl) (by
  unfold T128
  repeat' first | (with_reducible first | exact cC | refine cM ?_ | refine cF ?_ ?_ | refine cW ?_ ?_)) h
def T102l1 (O : Orc) (m : Nat) (y1 : Nat) (y2 : List V) (y3 y4 : Int) (y5 : Nat) (y6 : List V) : Option V := bif decide (y4 < y3) then must (inB y4 y1) (asSl y2[y4.toNat *
 2]? fun x1 x2 => PI.asInt .i64 y2[y4.toNat * 2 + 1]? fun x3 => need (O.R 0 128 [sl x1 x2]) fun x4 => asTup (some x4) fun x5 => asOsl x5[0]? fun x6 x7 => must (x7.all flatV) (must (true && (y5 +
 1).ble 140737488355328 && ((y5 + 1) * 32).ble 140737488355328) (O.L 0 102 0 [true, true, false, true] [] m [(3, ref 0), (7, sl y1 y2), (8, int .i64 y3), (9, int .i64 (i64.wrap (y4 +
 1)))] [Ob.nrow [] 78 (y5 + 1) (y6 ++ [own false 5 1 x6 x7, int .i64 x3])]))) else some (tup [osl y5 y6])
theorem E102l1 (y1 y2 y3 y4 y5 y6) {r : V} (h : T102l1 (orcE C) 0 y1 y2 y3 y4 y5 y6 = some r) : loopE C 102 0 [true, true, false, true] [] [(3,
 ref 0), (7, sl y1 y2), (8, int .i64 y3), (9, int .i64 y4)] [Ob.nrow [] 78 y5 y6] = some r := ofL (j := 0) (F := fun s => T102l1 (orc C s.k) s.m y1 y2 y3 y4 y5 y6) (fs0 fun _ _ => by
 kernel_rfl) (by
  unfold T102l1
  repeat' first | (with_reducible first | exact cC | refine cN cR fun _ => ?_ | refine cT fun _ => ?_ | refine cI fun _ => ?_ | refine cM ?_ | refine cF ?_ ?_ | refine cL fun _ _ => ?_ | refine cO fun _ _ => ?_ | refine cN cC fun _ => ?_ | exact cR) | exact cD0 gM) h
def T103l1 (O : Orc) (m : Nat) (y1 : Nat) (y2 : List V) (y3 y4 : Int) (y5 : Nat) (y6 : List V) : Option V := bif decide (y4 < y3) then must (inB y4 y1) (must (decide
 (y4.toNat * 1 < y2.length)) (asSl y2[y4.toNat * 1]? fun x1 x2 => need (O.R 0 128 [sl x1 x2]) fun x3 => asTup (some x3) fun x4 => asOsl x4[0]? fun x5 x6 => must (x6.all flatV) (must (true && (y5 +
 1).ble 140737488355328 && ((y5 + 1) * 24).ble 140737488355328) (O.L 0 103 0 [true, true, false, true] [] m [(3, ref 0), (7, sl y1 y2), (8, int .i64 y3), (9, int .i64 (i64.wrap (y4 +
 1)))] [Ob.nrow [] 22 (y5 + 1) (y6 ++ [own false 5 1 x5 x6])])))) else some (tup [osl y5 y6])
theorem E103l1 (y1 y2 y3 y4 y5 y6) {r : V} (h : T103l1 (orcE C) 0 y1 y2 y3 y4 y5 y6 = some r) : loopE C 103 0 [true, true, false, true] [] [(3,
 ref 0), (7, sl y1 y2), (8, int .i64 y3), (9, int .i64 y4)] [Ob.nrow [] 22 y5 y6] = some r := ofL (j := 0) (F := fun s => T103l1 (orc C s.k) s.m y1 y2 y3 y4 y5 y6) (fs0 fun _ _ => by
 kernel_rfl) (by
  unfold T103l1
  repeat' first | (with_reducible first | exact cC | refine cN cR fun _ => ?_ | refine cT fun _ => ?_ | refine cM ?_ | refine cF ?_ ?_ | refine cL fun _ _ => ?_ | refine cO fun _ _ => ?_ | refine cN cC fun _ => ?_ | exact cR) | exact cD0 gM) h
def T153 (O : Orc) (y1 y2 : Int) (y3 : Nat) (y4 : List V) (y5 y6 : Int) (y7 : Nat) (y8 : List V) : Option V := bif y1 != y5 then some (tup [bool
 false]) else bif y2 != y6 then some (tup [bool false]) else need (O.R 0 54 [sl y3 y4, sl y7 y8]) fun x1 => asTup (some x1) fun x2 => PI.asBool x2[0]? fun x3 => bif !x3 then some (tup [bool
 false]) else some (tup [bool true])
theorem E153 (y1 y2 y3 y4 y5 y6 y7 y8) {r : V} (h : T153 (orcE C) y1 y2 y3 y4 y5 y6 y7 y8 = some r) : runE C 153 [agg
 [int .i64 y1, int .i64 y2, sl y3 y4], agg [int .i64 y5, int .i64 y6, sl y7 y8]] = some r := ofR (j := 1) (F := fun s => T153 (orc C s.k) y1 y2 y3 y4 y5 y6 y7 y8) (fun _ => by
 kernel_rfl) (by
  unfold T153
  repeat' first | (with_reducible first | exact cC | refine cN cR fun _ => ?_ | refine cT fun _ => ?_ | refine cF ?_ ?_ | refine cB fun _ => ?_ | refine cN cC fun _ => ?_ | exact cR)) h
def T82l2 (O : Orc) (m q0 : Nat) (y1 : Nat) (y2 : List V) (y3 : Nat) (y4 : List V) (y5 y6 : Int) (y7 : List V) (y8 : Nat) (y9 y10 y11 : Int) (y12 : Nat) (y13
 : List V) (y14 : Nat) (y15 : List V) (y16 : Nat) (y17 : List V) (y18 : Nat) (y19 : List V) : Option V := bif decide (y9 < (↑y3 : Int)) then must (inB y9 y3) (must (decide (y9.toNat * 2 + 0 <
 y4.length)) (asSl y4[y9.toNat * 2 + 0]? fun x1 x2 => asSl y7[y8]? fun x3 x4 => need (O.R 0 37 [sl x1 x2, sl x3 x4]) fun x5 => asTup (some x5) fun x6 => PI.asBool x6[0]? fun x7 => bif x7 then must
 (inB y9 y3) (PI.asInt .i64 y4[y9.toNat * 2 + 1]? fun x8 => O.L 0 82 2 [true, true, false, true, false, true, false, false, true, true] [q0] m [(0, sl y1 y2), (1, sl y3 y4), (5, ptr 0 0), (7,
 int .i64 (i64.wrap (y5 + x8))), (8, int .i64 y6), (9, V.prj y7 y8), (10, int .i64 (i64.wrap (y9 + 1)))] [Ob.box 46 [int .i64 y10, int .i64 y11, sl y12 y13, sl y14 y15,
 sl y16 y17, sl y18 y19] false]) else O.L 0 82 2 [true, true, false, true, false, true, false, false, true, true] [q0] m [(0, sl y1 y2), (1, sl y3 y4), (5, ptr 0 0), (7, int .i64 y5), (8,
 int .i64 y6), (9, V.prj y7 y8), (10, int .i64 (i64.wrap (y9 + 1)))] [Ob.box 46 [int .i64 y10, int .i64 y11, sl y12 y13, sl y14 y15, sl y16 y17, sl y18 y19] false])) else O.L 0
 82 0 [true, true, false, true] [] q0 [(0, sl y1 y2), (1, sl y3 y4), (5, ptr 0 0), (7, int .i64 y5), (8, int .i64 (i64.wrap (y6 + 1)))] [Ob.box 46 [int .i64 y10, int .i64 y11,
 sl y12 y13, sl y14 y15, sl y16 y17, sl y18 y19] false]
theorem E82l2 (y1 y2 y3 y4 y5 y6 y7 y8 y9 y10 y11 y12 y13 y14 y15 y16 y17 y18 y19) {r : V} (h : T82l2 (orcE C) 0 0 y1 y2 y3 y4 y5 y6 y7 y8 y9 y10 y11 y12 y13 y14 y15 y16 y17 y18 y19 = some r) : loopE C 82 2 [true, true,
 false, true, false, true, false, false, true, true] [0] [(0, sl y1 y2), (1, sl y3 y4), (5, ptr 0 0), (7, int .i64 y5), (8, int .i64 y6), (9, V.prj y7 y8), (10, int .i64 y9)] [Ob.box 46
 [int .i64 y10, int .i64 y11, sl y12 y13, sl y14 y15, sl y16 y17, sl y18 y19] false] = some r := ofL (j := 0) (F := fun s => T82l2 (orc C s.k) s.m (s.fs.getD 0 0) y1 y2 y3 y4 y5 y6 y7
 y8 y9 y10 y11 y12 y13 y14 y15 y16 y17 y18 y19) (fs1 fun _ _ _ => by kernel_rfl) (by
  unfold T82l2
  repeat' first | (with_reducible first | exact cC | refine cN cR fun _ => ?_ | refine cT fun _ => ?_ | refine cI fun _ => ?_ | refine cM ?_ | refine cF ?_ ?_ | refine cB fun _ => ?_ | refine cL fun _ _ => ?_ | refine cN cC fun _ => ?_ | exact cR) | exact cD0 (gF (i := 0) (by decide)) | exact cD1 gM (gF (i := 0) (by decide))) h
def T136 (O : Orc)  : Option V := some (agg [int .i64 1116352408, int .i64 1899447441, int .i64 3049323471, int .i64 3921009573, int .i64 961987163, int
 .i64 1508970993, int .i64 2453635748, int .i64 2870763221, int .i64 3624381080, int .i64 310598401, int .i64 607225278, int .i64 1426881987, int .i64 1925078388, int .i64 2162078206,
 int .i64 2614888103, int .i64 3248222580, int .i64 3835390401, int .i64 4022224774, int .i64 264347078, int .i64 604807628, int .i64 770255983, int .i64 1249150122, int .i64
 1555081692, int .i64 1996064986, int .i64 2554220882, int .i64 2821834349, int .i64 2952996808, int .i64 3210313671, int .i64 3336571891, int .i64 3584528711, int .i64 113926993, int
 .i64 338241895, int .i64 666307205, int .i64 773529912, int .i64 1294757372, int .i64 1396182291, int .i64 1695183700, int .i64 1986661051, int .i64 2177026350, int .i64 2456956037,
 int .i64 2730485921, int .i64 2820302411, int .i64 3259730800, int .i64 3345764771, int .i64 3516065817, int .i64 3600352804, int .i64 4094571909, int .i64 275423344, int .i64
 430227734, int .i64 506948616, int .i64 659060556, int .i64 883997877, int .i64 958139571, int .i64 1322822218, int .i64 1537002063, int .i64 1747873779, int .i64 1955562222, int
 .i64 2024104815, int .i64 2227730452, int .i64 2361852424, int .i64 2428436474, int .i64 2756734187, int .i64 3204031479, int .i64 3329325298])
theorem E136  {r : V} (h : T136 (orcE C)  = some r) : runE C 136 [] = some r := ofR (j := 1) (F := fun s => T136 (orc C s.k) ) (fun _ => by kernel_rfl) (by
  unfold T136
  exact cC) h
def T137 (O : Orc)  : Option V := some (tup [int .i64 1779033703, int .i64 3144134277, int .i64 1013904242, int .i64 2773480762, int .i64 1359893119, int
 .i64 2600822924, int .i64 528734635, int .i64 1541459225])
theorem E137  {r : V} (h : T137 (orcE C)  = some r) : runE C 137 [] = some r := ofR (j := 1) (F := fun s => T137 (orc C s.k) ) (fun _ => by kernel_rfl) (by
  unfold T137
  exact cC) h
def T138 (O : Orc) (k : Nat) (y1 : Nat) (y2 : List V) : Option V := must (decide (y2.length = y1 * 1)) (must (true && (0 + y1).ble 140737488355328 && ((0 + y1) * 1).ble
 140737488355328) (must (true && (0 + y1 + 1).ble 140737488355328 && ((0 + y1 + 1) * 1).ble 140737488355328) (O.L 0 138 0 [true, true, false] [] k [(0, sl y1 y2), (3, ref 0)] [Ob.row 5 (0 + y1 + 1)
 (y2 ++ [int .u8 128]) false])))
theorem E138 (y1 y2) {r : V} (h : T138 (orcE C) 0 y1 y2 = some r) : runE C 138 [sl y1 y2] = some r := ofR (j := 1) (F := fun s => T138 (orc C s.k) s.k y1 y2) (fun _ =>
 by kernel_rfl) (by
  unfold T138
  repeat' first | (with_reducible first | exact cC | refine cM ?_) | exact cD0 gK) h
def T117l1 (O : Orc) (k m : Nat) (y1 : Nat) (y2 : List V) (y3 : Int) (y4 y5 : List V) : Option V := bif decide (y3 < (↑y1 : Int)) then O.L 0 117 2 [true, true, true,
 true, false, true, false, true, false, false, true, false, true] [m] k [(3, ptr 0 0), (4, ptr 1 0), (5, sl y1 y2), (6, int .i64 y3), (7, ptr 2 0), (8, int .i64 0)] [Ob.box 148 y4 false,
 Ob.box 150 y5 false, Ob.box 148 [int .i64 0, int .i64 0, int .i64 0, int .i64 0, int .i64 0, int .i64 0, int .i64 0, int .i64 0, int .i64 0, int .i64 0, int .i64 0, int .i64 0,
 int .i64 0, int .i64 0, int .i64 0, int .i64 0, int .i64 0, int .i64 0, int .i64 0, int .i64 0, int .i64 0, int .i64 0, int .i64 0, int .i64 0, int .i64 0, int .i64 0,
 int .i64 0, int .i64 0, int .i64 0, int .i64 0, int .i64 0, int .i64 0, int .i64 0, int .i64 0, int .i64 0, int .i64 0, int .i64 0, int .i64 0, int .i64 0, int .i64 0,
 int .i64 0, int .i64 0, int .i64 0, int .i64 0, int .i64 0, int .i64 0, int .i64 0, int .i64 0, int .i64 0, int .i64 0, int .i64 0, int .i64 0, int .i64 0, int .i64 0,
 int .i64 0, int .i64 0, int .i64 0, int .i64 0, int .i64 0, int .i64 0, int .i64 0, int .i64 0, int .i64 0, int .i64 0] false] else O.L 0 117 10 [true, true, true, true, true,
 true, false, true] [] k [(4, ptr 0 0), (17, ref 1), (18, int .i64 0)] [Ob.box 150 y5 false, Ob.row 5 0 [] false]
theorem E117l1 (y1 y2 y3 y4 y5) {r : V} (h : T117l1 (orcE C) 0 0 y1 y2 y3 y4 y5 = some r) : loopE C 117 0 [true, true, true, true, false, true] []
 [(3, ptr 0 0), (4, ptr 1 0), (5, sl y1 y2), (6, int .i64 y3)] [Ob.box 148 y4 false, Ob.box 150 y5 false] = some r := ofL (j := 0) (F := fun s => T117l1 (orc C s.k) s.k s.m y1 y2 y3 y4 y5)
 (fs0 fun _ _ => by kernel_rfl) (by
  unfold T117l1
  repeat' first | (with_reducible first | exact cC | refine cF ?_ ?_) | exact cD0 gK | exact cD1 gK gM) h
def T132 (O : Orc) (k : Nat) (y1 y2 : Int) (y3 : Nat) (y4 : List V) : Option V := need (O.R 0 154 [int .i64 y2, int .i64 y1]) fun x1 => asTup (some x1) fun x2 =>
 PI.asInt .i64 x2[0]? fun x3 => PI.asInt .i64 x2[1]? fun x4 => bif x3 != 0 then some (tup [bool false]) else bif (↑y3 : Int) != x4 then some (tup [bool false]) else O.L 0 132 0 [true, true,
 true, false, true] [] k [(1, ptr 0 0), (4, int .i64 0)] [Ob.box 106 [int .i64 y1, int .i64 y2, sl y3 y4] false]
theorem E132 (y1 y2 y3 y4) {r : V} (h : T132 (orcE C) 0 y1 y2 y3 y4 = some r) : runE C 132 [agg [int .i64 y1, int .i64 y2, sl y3 y4]] = some r := ofR (j
 := 1) (F := fun s => T132 (orc C s.k) s.k y1 y2 y3 y4) (fun _ => by kernel_rfl) (by
  unfold T132
  repeat' first | (with_reducible first | exact cC | refine cN cR fun _ => ?_ | refine cT fun _ => ?_ | refine cI fun _ => ?_ | refine cF ?_ ?_ | refine cN cC fun _ => ?_ | exact cR) | exact cD0 gK) h
def T114l1 (O : Orc) (k m : Nat) (y1 y2 : Int) (y3 : Nat) (y4 : List V) (y5 : Nat) (y6 : List V) : Option V := bif decide (y2 < 4) then O.L 0 114 2 [true, true, true, true,
 false, true, false, true, false, false, true] [m] k [(3, ref 0), (4, ref 1), (5, int .i64 y1), (6, int .i64 y2), (7, int .i64 3)] [Ob.row 5 y3 y4 false, Ob.row 2 y5 y6 false] else must (true
 && (y5 + 3).ble 140737488355328 && ((y5 + 3) * 8).ble 140737488355328) (must (false || (y6 ++ [int .i64 (i64.wrap (y1.tdiv 16)), int .i64 ((i64.wrap (y1.tdiv 4)).tmod 4), int
 .i64 (y1.tmod 4)]).all flatV) (some (tup [osl (y5 + 3) (y6 ++ [int .i64 (i64.wrap (y1.tdiv 16)), int .i64 ((i64.wrap (y1.tdiv 4)).tmod 4), int .i64 (y1.tmod 4)])])))
theorem E114l1 (y1 y2 y3 y4 y5 y6) {r : V} (h : T114l1 (orcE C) 0 0 y1 y2 y3 y4 y5 y6 = some r) : loopE C 114 0 [true, true, true, true, false,
 true] [] [(3, ref 0), (4, ref 1), (5, int .i64 y1), (6, int .i64 y2)] [Ob.row 5 y3 y4 false, Ob.row 2 y5 y6 false] = some r := ofL (j := 0) (F := fun s => T114l1 (orc C s.k) s.k s.m y1 y2
 y3 y4 y5 y6) (fs0 fun _ _ => by kernel_rfl) (by
  unfold T114l1
  repeat' first | (with_reducible first | exact cC | refine cM ?_ | refine cF ?_ ?_) | exact cD1 gK gM) h
def T115 (O : Orc) (k : Nat) (y1 : Nat) (y2 : List V) (y3 : Int) : Option V := O.L 0 115 0 [true, false] [] k [(0, sl y1 y2), (1, int .i64 y3)] []
theorem E115 (y1 y2 y3) {r : V} (h : T115 (orcE C) 0 y1 y2 y3 = some r) : runE C 115 [sl y1 y2, int .i64 y3] = some r := ofR (j := 1) (F := fun s => T115 (orc C s.k) s.k y1 y2 y3) (fun _ => by kernel_rfl) (by
  unfold T115
  repeat' first | with_reducible exact cC | exact cD0 gK) h
def T116 (O : Orc) (k : Nat) (y1 : Nat) (y2 : List V) (y3 : Nat) (y4 : List V) (y5 y6 : Int) (y7 : Nat) (y8 : List V) : Option V := need (O.R 0 132 [agg [int .i64 y5,
 int .i64 y6, sl y7 y8]]) fun x1 => asTup (some x1) fun x2 => PI.asBool x2[0]? fun x3 => bif !x3 then some (tup [bool false]) else need (O.R 0 133 [sl y3 y4]) fun x4 => asTup (some x4) fun x5
 => asOsl x5[0]? fun x6 x7 => need (O.R 0 134 [int .i64 y6, int .i64 y5]) fun x8 => asTup (some x8) fun x9 => asOsl x9[0]? fun x10 x11 => O.L 0 116 0 [true, true, true, true, false, true] [] k [(0,
 sl y1 y2), (5, ptr 0 0), (7, ref 1), (8, ref 2), (9, int .i64 0)] [Ob.box 106 [int .i64 y5, int .i64 y6, sl y7 y8] false, Ob.row 5 x6 x7 false, Ob.row 4 x10 x11 false]
theorem E116 (y1 y2 y3 y4 y5 y6 y7 y8) {r : V} (h : T116 (orcE C) 0 y1 y2 y3 y4 y5 y6 y7 y8 = some r) : runE C 116 [sl y1
 y2, sl y3 y4, agg [int .i64 y5, int .i64 y6, sl y7 y8]] = some r := ofR (j := 1) (F := fun s => T116 (orc C s.k) s.k y1 y2 y3 y4 y5 y6 y7 y8) (fun _ => by kernel_rfl) (by
  unfold T116
  repeat' first | (with_reducible first | exact cC | refine cN cR fun _ => ?_ | refine cT fun _ => ?_ | refine cF ?_ ?_ | refine cB fun _ => ?_ | refine cO fun _ _ => ?_ | refine cN cC fun _ => ?_ | exact cR) | exact cD0 gK) h
def T93 (O : Orc) (y1 : Nat) (y2 : List V) : Option V := bif decide ((↑y1 : Int) > 0) then need (O.R 0 94 [sl y1 y2]) fun x1 => asTup (some x1) fun x2 => PI.asBool
 x2[0]? fun x3 => some (tup [bool !x3]) else some (tup [bool false])
theorem E93 (y1 y2) {r : V} (h : T93 (orcE C) y1 y2 = some r) : runE C 93 [sl y1 y2] = some r := ofR (j := 1) (F := fun s => T93 (orc C s.k) y1 y2) (fun _ => by
 kernel_rfl) (by
  unfold T93
  repeat' first | (with_reducible first | exact cC | refine cN cR fun _ => ?_ | refine cT fun _ => ?_ | refine cF ?_ ?_ | refine cB fun _ => ?_ | refine cN cC fun _ => ?_ | exact cR)) h
def T144l1 (O : Orc) (m : Nat) (y1 : Nat) (y2 : List V) (y3 : Nat) (y4 : List V) (y5 y6 : Int) : Option V := bif decide (y6 < y5) then must (inB y6 y1) (asSl y2[y6.toNat *
 2]? fun x1 x2 => PI.asInt .i64 y2[y6.toNat * 2 + 1]? fun x3 => need (O.R 0 145 [agg [sl x1 x2, int .i64 x3], pin [sl y3 y4] 0]) fun x4 => asTup (some x4) fun x5 => PI.asBool x5[0]? fun x6 =>
 bif x6 then some (tup [int .i64 y6]) else O.L 0 144 0 [true, false, true] [] m [(0, sl y1 y2), (1, fn 145 [pin [sl y3 y4] 0]), (7, int .i64 y5), (8, int .i64 (i64.wrap (y6 +
 1)))] []) else some (tup [int .i64 (-1)])
theorem E144l1 (y1 y2 y3 y4 y5 y6) {r : V} (h : T144l1 (orcE C) 0 y1 y2 y3 y4 y5 y6 = some r) : loopE C 144 0 [true, false, true] [] [(0, sl
 y1 y2), (1, fn 145 [pin [sl y3 y4] 0]), (7, int .i64 y5), (8, int .i64 y6)] [] = some r := ofL (j := 0) (F := fun s => T144l1 (orc C s.k) s.m y1 y2 y3 y4 y5 y6) (fs0 fun _ _ => by
 kernel_rfl) (by
  unfold T144l1
  repeat' first | (with_reducible first | exact cC | refine cN cR fun _ => ?_ | refine cT fun _ => ?_ | refine cI fun _ => ?_ | refine cM ?_ | refine cF ?_ ?_ | refine cB fun _ => ?_ | refine cL fun _ _ => ?_ | refine cN cC fun _ => ?_ | exact cR) | exact cD0 gM) h
def T121l2 (O : Orc) (m : Nat) (y1 : Nat) (y2 : List V) (y3 y4 : Int) : Option V := bif decide (y4 < y3) then must (inB y4 y1) (must (decide (y4.toNat * 1 < y2.length))
 (asSl y2[y4.toNat * 1]? fun x1 x2 => need (O.R 0 143 [sl x1 x2]) fun x3 => asTup (some x3) fun x4 => PI.asBool x4[0]? fun x5 => bif x5 then some (tup [int .i64 y4]) else O.L 0 121 0 [true,
 false, true] [] m [(0, sl y1 y2), (1, fn 143 []), (7, int .i64 y3), (8, int .i64 (i64.wrap (y4 + 1)))] [])) else some (tup [int .i64 (-1)])
theorem E121l2 (y1 y2 y3 y4) {r : V} (h : T121l2 (orcE C) 0 y1 y2 y3 y4 = some r) : loopE C 121 0 [true, false, true] [] [(0, sl y1 y2), (1, fn 143 []), (7,
 int .i64 y3), (8, int .i64 y4)] [] = some r := ofL (j := 0) (F := fun s => T121l2 (orc C s.k) s.m y1 y2 y3 y4) (fs0 fun _ _ => by kernel_rfl) (by
  unfold T121l2
  repeat' first | (with_reducible first | exact cC | refine cN cR fun _ => ?_ | refine cT fun _ => ?_ | refine cM ?_ | refine cF ?_ ?_ | refine cB fun _ => ?_ | refine cL fun _ _ => ?_ | refine cN cC fun _ => ?_ | exact cR) | exact cD0 gM) h
def T126l2 (O : Orc) (k m : Nat) (y1 : Int) (y2 : Nat) (y3 : List V) : Option V := bif (↑y2 : Int).tmod 64 != 56 then must (true && (y2 + 1).ble 140737488355328 && ((y2 + 1) *
 1).ble 140737488355328) (O.L 0 126 2 [true, true, true, true, true, false] [] m [(3, ref 0), (6, int .u64 y1)] [Ob.row 5 (y2 + 1) (y3 ++ [int .u8 0]) false]) else O.L 0 126 4 [true, true, true,
 true, true, true, false, true] [] k [(3, ref 0), (6, int .u64 y1), (7, int .i64 56)] [Ob.row 5 y2 y3 false]
theorem E126l2 (y1 y2 y3) {r : V} (h : T126l2 (orcE C) 0 0 y1 y2 y3 = some r) : loopE C 126 2 [true, true, true, true, true, false] [] [(3, ref 0), (6, int .u64 y1)]
 [Ob.row 5 y2 y3 false] = some r := ofL (j := 0) (F := fun s => T126l2 (orc C s.k) s.k s.m y1 y2 y3) (fs0 fun _ _ => by kernel_rfl) (by
  unfold T126l2
  repeat' first | (with_reducible first | exact cC | refine cM ?_ | refine cF ?_ ?_) | exact cD0 gK | exact cD0 gM) h
def T123l2 (O : Orc) (m q0 : Nat) (y1 y2 y3 : Int) (y4 : Nat) (y5 : List V) (y6 y7 : Int) (y8 : Nat) (y9 : List V) : Option V := bif decide (y3 ≥ 0) then must
 (decide (0 ≤ y3)) (must (true && (y8 + 1).ble 140737488355328 && ((y8 + 1) * 8).ble 140737488355328) (O.L 0 123 2 [true, true, false, true, false, true, true, false, false, true, true] [q0] m [(3,
 ref 0), (4, int .i64 (i64.wrap (i64.wrap (y1 + 3) - i64.wrap (PI.bits u8 (fun x1 x2 => x1 &&& x2) (y2.fdiv (2 ^ min y3.toNat 8)) 3)))), (6, int .u8 y2), (7, int
 .i64 (i64.wrap (y3 - 2))), (13, sl y4 y5), (14, int .i64 y6), (15, int .i64 y7)] [Ob.row 2 (y8 + 1) (y9 ++ [int .i64 (i64.wrap (PI.bits u8 (fun x1 x2 => x1 &&& x2)
 (y2.fdiv (2 ^ min y3.toNat 8)) 3))]) false])) else O.L 0 123 0 [true, true, false, true] [] q0 [(3, ref 0), (4, int .i64 y1), (13, sl y4 y5), (14, int .i64 y6), (15, int .i64
 (i64.wrap (y7 + 1)))] [Ob.row 2 y8 y9 false]
theorem E123l2 (y1 y2 y3 y4 y5 y6 y7 y8 y9) {r : V} (h : T123l2 (orcE C) 0 0 y1 y2 y3 y4 y5 y6 y7 y8 y9 = some r) : loopE
 C 123 2 [true, true, false, true, false, true, true, false, false, true, true] [0] [(3, ref 0), (4, int .i64 y1), (6, int .u8 y2), (7, int .i64 y3), (13, sl y4 y5), (14, int .i64 y6), (15,
 int .i64 y7)] [Ob.row 2 y8 y9 false] = some r := ofL (j := 0) (F := fun s => T123l2 (orc C s.k) s.m (s.fs.getD 0 0) y1 y2 y3 y4 y5 y6 y7 y8 y9) (fs1 fun _ _ _ => by kernel_rfl) (by
  unfold T123l2
  repeat' first | (with_reducible first | exact cC | refine cM ?_ | refine cF ?_ ?_) | exact cD0 (gF (i := 0) (by decide)) | exact cD1 gM (gF (i := 0) (by decide))) h
def T147 (O : Orc) (y1 : Nat) (y2 : List V) : Option V := bif y1.beq (OfNat.ofNat 0) then both (some (tup [osl 0 []])) (must (decide (y2.length = y1 * 1)) (must
 (true && (0 + y1).ble 140737488355328 && ((0 + y1) * 1).ble 140737488355328) (must (false || y2.all flatV) (some (tup [osl (0 + y1) y2]))))) else must (decide (y2.length = y1 * 1)) (must (true &&
 (0 + y1).ble 140737488355328 && ((0 + y1) * 1).ble 140737488355328) (must (false || y2.all flatV) (some (tup [osl (0 + y1) y2]))))
theorem E147 (y1 y2) {r : V} (h : T147 (orcE C) y1 y2 = some r) : runE C 147 [sl y1 y2] = some r := ofR (j := 1) (F := fun s => T147 (orc C s.k) y1 y2) (fun _ =>
 by kernel_rfl) (by
  unfold T147
  repeat' first | (with_reducible first | exact cC | refine cM ?_ | refine cF ?_ ?_ | refine cW ?_ ?_)) h
def T124l1 (O : Orc) (m : Nat) (y1 y2 : Int) (y3 : Nat) (y4 : List V) : Option V := bif decide (y2 < y1) then need (O.R 0 96 [str { data := #[(115 : UInt8), (116 :
 UInt8), (101 : UInt8), (112 : UInt8)] }, sl 1 [sl y3 y4]]) fun x1 => asTup (some x1) fun x2 => asOsl x2[0]? fun x3 x4 => O.L 0 124 0 [true, true, false, true] [] m [(0, ref 0), (7, int .i64
 y1), (8, int .i64 (i64.wrap (y2 + 1)))] [Ob.row 5 x3 x4 false] else must (false || y4.all flatV) (some (tup [osl y3 y4]))
theorem E124l1 (y1 y2 y3 y4) {r : V} (h : T124l1 (orcE C) 0 y1 y2 y3 y4 = some r) : loopE C 124 0 [true, true, false, true] [] [(0, ref 0), (7, int .i64 y1),
 (8, int .i64 y2)] [Ob.row 5 y3 y4 false] = some r := ofL (j := 0) (F := fun s => T124l1 (orc C s.k) s.m y1 y2 y3 y4) (fs0 fun _ _ => by kernel_rfl) (by
  unfold T124l1
  repeat' first | (with_reducible first | exact cC | refine cN cR fun _ => ?_ | refine cT fun _ => ?_ | refine cM ?_ | refine cF ?_ ?_ | refine cO fun _ _ => ?_ | refine cN cC fun _ => ?_ | exact cR) | exact cD0 gM) h
def T148 (O : Orc) (y1 y2 : Int) (y3 : Nat) (y4 : List V) : Option V := need (O.R 0 157 [int .i64 y2, int .i64 y1]) fun x1 => asTup (some x1) fun x2 =>
 PI.asInt .i64 x2[0]? fun x3 => PI.asInt .i64 x2[1]? fun x4 => bif x3 == 0 then bif x4 == (↑y3 : Int) then need (O.R 0 119 [sl y3 y4]) fun x5 => asTup (some x5) fun x6 => PI.asBool x6[0]? fun x7 =>
 some (tup [bool x7]) else some (tup [bool false]) else some (tup [bool false])
theorem E148 (y1 y2 y3 y4) {r : V} (h : T148 (orcE C) y1 y2 y3 y4 = some r) : runE C 148 [agg [int .i64 y1, int .i64 y2, sl y3 y4]] = some r := ofR (j
 := 1) (F := fun s => T148 (orc C s.k) y1 y2 y3 y4) (fun _ => by kernel_rfl) (by
  unfold T148
  repeat' first | (with_reducible first | exact cC | refine cN cR fun _ => ?_ | refine cT fun _ => ?_ | refine cI fun _ => ?_ | refine cF ?_ ?_ | refine cB fun _ => ?_ | refine cN cC fun _ => ?_ | exact cR)) h
def T149 (O : Orc) (y1 : Nat) (y2 : List V) : Option V := need (O.R 0 96 [str { data := #[(108 : UInt8), (101 : UInt8), (97 : UInt8), (102 : UInt8)] }, sl 1 [sl y1
 y2]]) fun x1 => asTup (some x1) fun x2 => asOsl x2[0]? fun x3 x4 => must (false || x4.all flatV) (some (tup [osl x3 x4]))
theorem E149 (y1 y2) {r : V} (h : T149 (orcE C) y1 y2 = some r) : runE C 149 [sl y1 y2] = some r := ofR (j := 1) (F := fun s => T149 (orc C s.k) y1 y2) (fun _ =>
 by kernel_rfl) (by
  unfold T149
  repeat' first | (with_reducible first | exact cC | refine cN cR fun _ => ?_ | refine cT fun _ => ?_ | refine cM ?_ | refine cO fun _ _ => ?_ | refine cN cC fun _ => ?_ | exact cR)) h
def T150 (O : Orc) (y1 y2 : Int) : Option V := bif y1 == 1 then some (tup [osl 0 []]) else need (O.R 0 158 [int .i64 y1]) fun x1 => asTup (some x1) fun x2
 => PI.asInt .i64 x2[0]? fun x3 => bif decide (y2 < x3) then need (O.R 0 150 [int .i64 x3, int .i64 y2]) fun x4 => asTup (some x4) fun x5 => asOsl x5[0]? fun x6 x7 => must (true && (x6 + 1).ble
 140737488355328 && ((x6 + 1) * 1).ble 140737488355328) (must (false || (x7 ++ [bool false]).all flatV) (some (tup [osl (x6 + 1) (x7 ++ [bool false])]))) else need (O.R 0 150 [int .i64
 (i64.wrap (y1 - x3)), int .i64 (i64.wrap (y2 - x3))]) fun x8 => asTup (some x8) fun x9 => asOsl x9[0]? fun x10 x11 => must (true && (x10 + 1).ble 140737488355328 && ((x10 + 1) *
 1).ble 140737488355328) (must (false || (x11 ++ [bool true]).all flatV) (some (tup [osl (x10 + 1) (x11 ++ [bool true])])))
theorem E150 (y1 y2) {r : V} (h : T150 (orcE C) y1 y2 = some r) : runE C 150 [int .i64 y1, int .i64 y2] = some r := ofR (j := 1) (F := fun s => T150 (orc C s.k) y1
 y2) (fun _ => by kernel_rfl) (by
  unfold T150
  repeat' first | (with_reducible first | exact cC | refine cN cR fun _ => ?_ | refine cT fun _ => ?_ | refine cI fun _ => ?_ | refine cM ?_ | refine cF ?_ ?_ | refine cO fun _ _ => ?_ | refine cN cC fun _ => ?_ | exact cR)) h
def T125l1 (O : Orc) (m : Nat) (y1 : Nat) (y2 : List V) (y3 y4 y5 y6 : Int) (y7 : Nat) (y8 : List V) (y9 : Nat) (y10 : List V) (y11 : Nat) (y12 : List V) :
 Option V := bif decide (y4 < y3) then must (inB y4 y11) (PI.asBool y12[y4.toNat * 1]? fun x1 => bif x1 then must (inB y4 y7) (must (decide (y4.toNat * 1 < y8.length)) (asSl y8[y4.toNat * 1]? fun x2 x3
 => need (O.R 0 151 [sl x2 x3, sl y9 y10]) fun x4 => asTup (some x4) fun x5 => asOsl x5[0]? fun x6 x7 => O.L 0 125 0 [true, true, true, false, true] [] m [(0, sl y1 y2), (5, ptr 0 0), (7, ref
 1), (19, ref 2), (20, int .i64 y3), (21, int .i64 (i64.wrap (y4 + 1)))] [Ob.box 106 [int .i64 y5, int .i64 y6, sl y7 y8] false, Ob.row 5 x6 x7 false, Ob.row 4 y11 y12 false])) else
 must (inB y4 y7) (must (decide (y4.toNat * 1 < y8.length)) (asSl y8[y4.toNat * 1]? fun x8 x9 => need (O.R 0 151 [sl y9 y10, sl x8 x9]) fun x10 => asTup (some x10) fun x11 => asOsl x11[0]? fun x12
 x13 => O.L 0 125 0 [true, true, true, false, true] [] m [(0, sl y1 y2), (5, ptr 0 0), (7, ref 1), (19, ref 2), (20, int .i64 y3), (21, int .i64 (i64.wrap (y4 + 1)))] [Ob.box 106
 [int .i64 y5, int .i64 y6, sl y7 y8] false, Ob.row 5 x12 x13 false, Ob.row 4 y11 y12 false]))) else need (O.R 0 49 [sl y9 y10, sl y1 y2]) fun x14 => asTup (some x14) fun x15 => PI.asBool
 x15[0]? fun x16 => some (tup [bool x16])
theorem E125l1 (y1 y2 y3 y4 y5 y6 y7 y8 y9 y10 y11 y12) {r : V} (h : T125l1 (orcE C) 0 y1
 y2 y3 y4 y5 y6 y7 y8 y9 y10 y11 y12 = some r) : loopE C 125 0 [true, true, true, false, true] [] [(0, sl y1 y2), (5, ptr 0 0), (7, ref 1), (19, ref 2), (20, int .i64 y3), (21, int .i64
 y4)] [Ob.box 106 [int .i64 y5, int .i64 y6, sl y7 y8] false, Ob.row 5 y9 y10 false, Ob.row 4 y11 y12 false] = some r := ofL (j := 0) (F := fun s => T125l1 (orc C s.k) s.m y1 y2 y3 y4 y5
 y6 y7 y8 y9 y10 y11 y12) (fs0 fun _ _ => by kernel_rfl) (by
  unfold T125l1
  repeat' first | (with_reducible first | exact cC | refine cN cR fun _ => ?_ | refine cT fun _ => ?_ | refine cM ?_ | refine cF ?_ ?_ | refine cB fun _ => ?_ | refine cL fun _ _ => ?_ | refine cO fun _ _ => ?_ | refine cN cC fun _ => ?_ | exact cR) | exact cD0 gM) h
def T138l1 (O : Orc) (k m : Nat) (y1 : Nat) (y2 : List V) (y3 : Nat) (y4 : List V) : Option V := bif (↑y3 : Int).tmod 64 != 56 then must (true && (y3 + 1).ble 140737488355328 &&
 ((y3 + 1) * 1).ble 140737488355328) (O.L 0 138 0 [true, true, false] [] m [(0, sl y1 y2), (3, ref 0)] [Ob.row 5 (y3 + 1) (y4 ++ [int .u8 0]) false]) else O.L 0 138 2 [true, true, true, true,
 false, true] [] k [(3, ref 0), (4, int .i64 (i64.wrap ((↑y1 : Int) * 8))), (5, int .i64 7)] [Ob.row 5 y3 y4 false]
theorem E138l1 (y1 y2 y3 y4) {r : V} (h : T138l1 (orcE C) 0 0 y1 y2 y3 y4 = some r) : loopE C 138 0 [true, true, false] [] [(0, sl y1 y2), (3, ref 0)]
 [Ob.row 5 y3 y4 false] = some r := ofL (j := 0) (F := fun s => T138l1 (orc C s.k) s.k s.m y1 y2 y3 y4) (fs0 fun _ _ => by kernel_rfl) (by
  unfold T138l1
  repeat' first | (with_reducible first | exact cC | refine cM ?_ | refine cF ?_ ?_) | exact cD0 gK | exact cD0 gM) h
def T117l2 (O : Orc) (k m q0 : Nat) (y1 : Nat) (y2 : List V) (y3 y4 : Int) (y5 y6 y7 : List V) : Option V := bif decide (y4 < 16) then must (decide (0 ≤
 i64.wrap (i64.wrap (y3 + i64.wrap (4 * y4)) + 4)) && decide (i64.wrap (i64.wrap (y3 + i64.wrap (4 * y4)) + 4) ≤ (↑y1 : Int))) (must (decide (0 ≤
 i64.wrap (y3 + i64.wrap (4 * y4))) && decide (i64.wrap (y3 + i64.wrap (4 * y4)) ≤ (↑(i64.wrap (i64.wrap (y3 + i64.wrap (4 * y4)) + 4)).toNat :
 Int))) (need (O.R 0 139 [sl ((i64.wrap (i64.wrap (y3 + i64.wrap (4 * y4)) + 4)).toNat - (i64.wrap (y3 + i64.wrap (4 * y4))).toNat) (List.take
 (((i64.wrap (i64.wrap (y3 + i64.wrap (4 * y4)) + 4)).toNat - (i64.wrap (y3 + i64.wrap (4 * y4))).toNat) * 1) (List.drop ((i64.wrap (y3 +
 i64.wrap (4 * y4))).toNat * 1) y2))]) fun x1 => asTup (some x1) fun x2 => PI.asInt .i64 x2[0]? fun x3 => must (inB y4 64) (must ((int .i64 x3).solid && true && (0 + y4.toNat * 1 + 1).ble
 y7.length && flatB C 148 [int .i64 x3]) (O.L 0 117 2 [true, true, true, true, false, true, false, true, false, false, true, false, true] [q0] m [(3, ptr 0 0), (4, ptr 1 0), (5, sl y1 y2), (6,
 int .i64 y3), (7, ptr 2 0), (8, int .i64 (i64.wrap (y4 + 1)))] [Ob.box 148 y5 false, Ob.box 150 y6 false, Ob.box 148 (splice y7 (0 + y4.toNat * 1) [int .i64 x3]) false])))) else O.L 0
 117 4 [true, true, true, true, false, true, false, true, false, false, true, true, false, true] [q0] k [(3, ptr 0 0), (4, ptr 1 0), (5, sl y1 y2), (6, int .i64 y3), (7, ptr 2 0), (9, int
 .i64 16)] [Ob.box 148 y5 false, Ob.box 150 y6 false, Ob.box 148 y7 false]
theorem E117l2 (y1 y2 y3 y4 y5 y6 y7) {r : V} (h : T117l2 (orcE C) 0 0 0 y1 y2 y3 y4 y5 y6 y7 = some r) : loopE C 117 2 [true, true,
 true, true, false, true, false, true, false, false, true, false, true] [0] [(3, ptr 0 0), (4, ptr 1 0), (5, sl y1 y2), (6, int .i64 y3), (7, ptr 2 0), (8, int .i64 y4)] [Ob.box 148 y5
 false, Ob.box 150 y6 false, Ob.box 148 y7 false] = some r := ofL (j := 0) (F := fun s => T117l2 (orc C s.k) s.k s.m (s.fs.getD 0 0) y1 y2 y3 y4 y5 y6 y7) (fs1 fun _ _ _ => by kernel_rfl) (by
  unfold T117l2
  repeat' first | (with_reducible first | exact cC | refine cN cR fun _ => ?_ | refine cT fun _ => ?_ | refine cI fun _ => ?_ | refine cM ?_ | refine cF ?_ ?_ | refine cN cC fun _ => ?_ | exact cR) | exact cD1 gK (gF (i := 0) (by decide)) | exact cD1 gM (gF (i := 0) (by decide))) h
def T117l3 (O : Orc) (k m : Nat) (y1 : Int) (y2 : List V) (y3 : Nat) (y4 : List V) : Option V := bif decide (y1 < 8) then O.L 0 117 12 [true, true, true, true, true, true, false,
 true, false, true, false, false, true] [m] k [(4, ptr 0 0), (17, ref 1), (18, int .i64 y1), (19, int .i64 3)] [Ob.box 150 y2 false, Ob.row 5 y3 y4 false] else must (false || y4.all flatV)
 (some (tup [osl y3 y4]))
theorem E117l3 (y1 y2 y3 y4) {r : V} (h : T117l3 (orcE C) 0 0 y1 y2 y3 y4 = some r) : loopE C 117 10 [true, true, true, true, true, true, false, true] [] [(4,
 ptr 0 0), (17, ref 1), (18, int .i64 y1)] [Ob.box 150 y2 false, Ob.row 5 y3 y4 false] = some r := ofL (j := 0) (F := fun s => T117l3 (orc C s.k) s.k s.m y1 y2 y3 y4) (fs0 fun _ _ => by
 kernel_rfl) (by
  unfold T117l3
  repeat' first | (with_reducible first | exact cC | refine cM ?_ | refine cF ?_ ?_) | exact cD1 gK gM) h
def T154 (O : Orc) (y1 y2 : Int) : Option V := need (O.R 0 74 [int .i64 y1, int .i64 1, int .i64 16]) fun x1 => asTup (some x1) fun x2 => PI.asBool x2[0]?
 fun x3 => bif !x3 then some (tup [int .i64 3, int .i64 0]) else need (O.R 0 74 [int .i64 y2, int .i64 0, int .i64 (i64.wrap (y1 - 1))]) fun x4 => asTup (some x4) fun x5 =>
 PI.asBool x5[0]? fun x6 => bif !x6 then some (tup [int .i64 3, int .i64 0]) else need (O.R 0 134 [int .i64 y1, int .i64 y2]) fun x7 => asTup (some x7) fun x8 => asOsl x8[0]? fun x9 x10 =>
 some (tup [int .i64 0, int .i64 (↑x9 : Int)])
theorem E154 (y1 y2) {r : V} (h : T154 (orcE C) y1 y2 = some r) : runE C 154 [int .i64 y1, int .i64 y2] = some r := ofR (j := 1) (F := fun s => T154 (orc C s.k) y1
 y2) (fun _ => by kernel_rfl) (by
  unfold T154
  repeat' first | (with_reducible first | exact cC | refine cN cR fun _ => ?_ | refine cT fun _ => ?_ | refine cF ?_ ?_ | refine cB fun _ => ?_ | refine cO fun _ _ => ?_ | refine cN cC fun _ => ?_ | exact cR)) h
def T132l1 (O : Orc) (m : Nat) (y1 y2 y3 : Int) (y4 : Nat) (y5 : List V) : Option V := bif decide (y1 < (↑y4 : Int)) then must (inB y1 y4) (must (decide (y1.toNat
 * 1 < y5.length)) (asSl y5[y1.toNat * 1]? fun x1 x2 => bif (↑x1 : Int) != 32 then some (tup [bool false]) else O.L 0 132 0 [true, true, true, false, true] [] m [(1, ptr 0 0), (4, int .i64
 (i64.wrap (y1 + 1)))] [Ob.box 106 [int .i64 y2, int .i64 y3, sl y4 y5] false])) else some (tup [bool true])
theorem E132l1 (y1 y2 y3 y4 y5) {r : V} (h : T132l1 (orcE C) 0 y1 y2 y3 y4 y5 = some r) : loopE C 132 0 [true, true, true, false, true] [] [(1, ptr 0
 0), (4, int .i64 y1)] [Ob.box 106 [int .i64 y2, int .i64 y3, sl y4 y5] false] = some r := ofL (j := 0) (F := fun s => T132l1 (orc C s.k) s.m y1 y2 y3 y4 y5) (fs0 fun _ _ => by
 kernel_rfl) (by
  unfold T132l1
  repeat' first | (with_reducible first | exact cC | refine cM ?_ | refine cF ?_ ?_ | refine cL fun _ _ => ?_) | exact cD0 gM) h
def T114l2 (O : Orc) (m q0 : Nat) (y1 y2 y3 : Int) (y4 : Nat) (y5 : List V) (y6 : Nat) (y7 : List V) : Option V := bif decide (y3 ≥ 0) then must (inB y2 y4) (PI.asInt
 .u8 y5[y2.toNat * 1]? fun x1 => must (decide (0 ≤ u64.wrap (i64.wrap (2 * y3)))) (must (true && (y6 + 1).ble 140737488355328 && ((y6 + 1) * 8).ble 140737488355328) (O.L 0 114 2 [true,
 true, true, true, false, true, false, true, false, false, true] [q0] m [(3, ref 0), (4, ref 1), (5, int .i64 (i64.wrap (i64.wrap (y1 + 3) - i64.wrap (PI.bits u8
 (fun x1 x2 => x1 &&& x2) (x1.fdiv (2 ^ min (u64.wrap (i64.wrap (2 * y3))).toNat 8)) 3)))), (6, int .i64 y2), (7, int .i64 (i64.wrap (y3 - 1)))] [Ob.row 5 y4 y5 false,
 Ob.row 2 (y6 + 1) (y7 ++ [int .i64 (i64.wrap (PI.bits u8 (fun x1 x2 => x1 &&& x2) (x1.fdiv (2 ^ min (u64.wrap (i64.wrap (2 * y3))).toNat 8)) 3))]) false]))) else O.L
 0 114 0 [true, true, true, true, false, true] [] q0 [(3, ref 0), (4, ref 1), (5, int .i64 y1), (6, int .i64 (i64.wrap (y2 + 1)))] [Ob.row 5 y4 y5 false, Ob.row 2 y6 y7 false]
theorem E114l2 (y1 y2 y3 y4 y5 y6 y7) {r : V} (h : T114l2 (orcE C) 0 0 y1 y2 y3 y4 y5 y6 y7 = some r) : loopE C 114 2 [true, true, true,
 true, false, true, false, true, false, false, true] [0] [(3, ref 0), (4, ref 1), (5, int .i64 y1), (6, int .i64 y2), (7, int .i64 y3)] [Ob.row 5 y4 y5 false, Ob.row 2 y6 y7 false] = some r
 := ofL (j := 0) (F := fun s => T114l2 (orc C s.k) s.m (s.fs.getD 0 0) y1 y2 y3 y4 y5 y6 y7) (fs1 fun _ _ _ => by kernel_rfl) (by
  unfold T114l2
  repeat' first | (with_reducible first | exact cC | refine cI fun _ => ?_ | refine cM ?_ | refine cF ?_ ?_) | exact cD0 (gF (i := 0) (by decide)) | exact cD1 gM (gF (i := 0) (by decide))) h
def T115l1 (O : Orc) (m : Nat) (y1 : Nat) (y2 : List V) (y3 : Int) : Option V := bif decide (y3 > 0) then need (O.R 0 77 [str { data := #[(115 : UInt8), (116 : UInt8), (101 :
 UInt8), (112 : UInt8)] }, sl y1 y2]) fun x1 => asTup (some x1) fun x2 => asOsl x2[0]? fun x3 x4 => O.L 0 115 0 [true, false] [] m [(0, ref 0), (1, int .i64 (i64.wrap (y3 - 1)))] [Ob.row
 5 x3 x4 false] else must (decide (y2.length = y1 * 1)) (must (true && (0 + y1).ble 140737488355328 && ((0 + y1) * 1).ble 140737488355328) (must (false || y2.all flatV) (some (tup [osl (0 + y1)
 y2]))))
theorem E115l1 (y1 y2 y3) {r : V} (h : T115l1 (orcE C) 0 y1 y2 y3 = some r) : loopE C 115 0 [true, false] [] [(0, sl y1 y2), (1, int .i64 y3)] [] = some r := ofL (j
 := 0) (F := fun s => T115l1 (orc C s.k) s.m y1 y2 y3) (fs0 fun _ _ => by kernel_rfl) (by
  unfold T115l1
  repeat' first | (with_reducible first | exact cC | refine cN cR fun _ => ?_ | refine cT fun _ => ?_ | refine cM ?_ | refine cF ?_ ?_ | refine cO fun _ _ => ?_ | refine cN cC fun _ => ?_ | exact cR) | exact cD0 gM) h
def T133 (O : Orc) (y1 : Nat) (y2 : List V) : Option V := need (O.R 0 77 [str { data := #[(108 : UInt8), (101 : UInt8), (97 : UInt8), (102 : UInt8)] }, sl y1 y2])
 fun x1 => asTup (some x1) fun x2 => asOsl x2[0]? fun x3 x4 => must (false || x4.all flatV) (some (tup [osl x3 x4]))
theorem E133 (y1 y2) {r : V} (h : T133 (orcE C) y1 y2 = some r) : runE C 133 [sl y1 y2] = some r := ofR (j := 1) (F := fun s => T133 (orc C s.k) y1 y2) (fun _ =>
 by kernel_rfl) (by
  unfold T133
  repeat' first | (with_reducible first | exact cC | refine cN cR fun _ => ?_ | refine cT fun _ => ?_ | refine cM ?_ | refine cO fun _ _ => ?_ | refine cN cC fun _ => ?_ | exact cR)) h
def T134 (O : Orc) (y1 y2 : Int) : Option V := bif decide (y1 ≤ 1) then some (tup [osl 0 []]) else need (O.R 0 155 [int .i64 y1]) fun x1 => asTup (some x1)
 fun x2 => PI.asInt .i64 x2[0]? fun x3 => bif decide (y2 < x3) then need (O.R 0 134 [int .i64 x3, int .i64 y2]) fun x4 => asTup (some x4) fun x5 => asOsl x5[0]? fun x6 x7 => must (true && (x6 +
 1).ble 140737488355328 && ((x6 + 1) * 1).ble 140737488355328) (must (false || (x7 ++ [bool true]).all flatV) (some (tup [osl (x6 + 1) (x7 ++ [bool true])]))) else need (O.R 0 134 [int .i64
 (i64.wrap (y1 - x3)), int .i64 (i64.wrap (y2 - x3))]) fun x8 => asTup (some x8) fun x9 => asOsl x9[0]? fun x10 x11 => must (true && (x10 + 1).ble 140737488355328 && ((x10 + 1) *
 1).ble 140737488355328) (must (false || (x11 ++ [bool false]).all flatV) (some (tup [osl (x10 + 1) (x11 ++ [bool false])])))
theorem E134 (y1 y2) {r : V} (h : T134 (orcE C) y1 y2 = some r) : runE C 134 [int .i64 y1, int .i64 y2] = some r := ofR (j := 1) (F := fun s => T134 (orc C s.k) y1
 y2) (fun _ => by kernel_rfl) (by
  unfold T134
  repeat' first | (with_reducible first | exact cC | refine cN cR fun _ => ?_ | refine cT fun _ => ?_ | refine cI fun _ => ?_ | refine cM ?_ | refine cF ?_ ?_ | refine cO fun _ _ => ?_ | refine cN cC fun _ => ?_ | exact cR)) h
def T116l1 (O : Orc) (m : Nat) (y1 : Nat) (y2 : List V) (y3 y4 y5 : Int) (y6 : Nat) (y7 : List V) (y8 : Nat) (y9 : List V) (y10 : Nat) (y11 : List V) : Option V :=
 bif decide (y3 < (↑y10 : Int)) then must (inB y3 y10) (PI.asBool y11[y3.toNat * 1]? fun x1 => bif x1 then must (inB y3 y6) (must (decide (y3.toNat * 1 < y7.length)) (asSl y7[y3.toNat * 1]? fun x2 x3
 => need (O.R 0 135 [sl y8 y9, sl x2 x3]) fun x4 => asTup (some x4) fun x5 => asOsl x5[0]? fun x6 x7 => O.L 0 116 0 [true, true, true, true, false, true] [] m [(0, sl y1 y2), (5, ptr 0 0), (7,
 ref 1), (8, ref 2), (9, int .i64 (i64.wrap (y3 + 1)))] [Ob.box 106 [int .i64 y4, int .i64 y5, sl y6 y7] false, Ob.row 5 x6 x7 false, Ob.row 4 y10 y11 false])) else must (inB y3 y6)
 (must (decide (y3.toNat * 1 < y7.length)) (asSl y7[y3.toNat * 1]? fun x8 x9 => need (O.R 0 135 [sl x8 x9, sl y8 y9]) fun x10 => asTup (some x10) fun x11 => asOsl x11[0]? fun x12 x13 => O.L 0 116 0
 [true, true, true, true, false, true] [] m [(0, sl y1 y2), (5, ptr 0 0), (7, ref 1), (8, ref 2), (9, int .i64 (i64.wrap (y3 + 1)))] [Ob.box 106 [int .i64 y4, int .i64 y5, sl y6
 y7] false, Ob.row 5 x12 x13 false, Ob.row 4 y10 y11 false]))) else need (O.R 0 37 [sl y8 y9, sl y1 y2]) fun x14 => asTup (some x14) fun x15 => PI.asBool x15[0]? fun x16 => some (tup [bool
 x16])
theorem E116l1 (y1 y2 y3 y4 y5 y6 y7 y8 y9 y10 y11) {r : V} (h : T116l1 (orcE C) 0 y1 y2 y3 y4 y5
 y6 y7 y8 y9 y10 y11 = some r) : loopE C 116 0 [true, true, true, true, false, true] [] [(0, sl y1 y2), (5, ptr 0 0), (7, ref 1), (8, ref 2), (9, int .i64 y3)] [Ob.box 106 [int .i64 y4,
 int .i64 y5, sl y6 y7] false, Ob.row 5 y8 y9 false, Ob.row 4 y10 y11 false] = some r := ofL (j := 0) (F := fun s => T116l1 (orc C s.k) s.m y1 y2 y3 y4 y5 y6 y7 y8 y9 y10 y11) (fs0 fun _ _
 => by kernel_rfl) (by
  unfold T116l1
  repeat' first | (with_reducible first | exact cC | refine cN cR fun _ => ?_ | refine cT fun _ => ?_ | refine cM ?_ | refine cF ?_ ?_ | refine cB fun _ => ?_ | refine cL fun _ _ => ?_ | refine cO fun _ _ => ?_ | refine cN cC fun _ => ?_ | exact cR) | exact cD0 gM) h
def T145 (O : Orc) (y1 : Nat) (y2 : List V) (y3 : Int) (y4 : Nat) (y5 : List V) : Option V := need (O.R 0 49 [sl y1 y2, sl y4 y5]) fun x1 => asTup (some x1) fun x2
 => PI.asBool x2[0]? fun x3 => some (tup [bool x3])
theorem E145 (y1 y2 y3 y4 y5) {r : V} (h : T145 (orcE C) y1 y2 y3 y4 y5 = some r) : runE C 145 [agg [sl y1 y2, int .i64 y3], pin [sl y4 y5]
 0] = some r := ofR (j := 1) (F := fun s => T145 (orc C s.k) y1 y2 y3 y4 y5) (fun _ => by kernel_rfl) (by
  unfold T145
  repeat' first | (with_reducible first | exact cC | refine cN cR fun _ => ?_ | refine cT fun _ => ?_ | refine cB fun _ => ?_ | refine cN cC fun _ => ?_ | exact cR)) h
def T143 (O : Orc) (y1 : Nat) (y2 : List V) : Option V := need (O.R 0 94 [sl y1 y2]) fun x1 => asTup (some x1) fun x2 => PI.asBool x2[0]? fun x3 => some (tup [bool
 !x3])
theorem E143 (y1 y2) {r : V} (h : T143 (orcE C) y1 y2 = some r) : runE C 143 [sl y1 y2] = some r := ofR (j := 1) (F := fun s => T143 (orc C s.k) y1 y2) (fun _ =>
 by kernel_rfl) (by
  unfold T143
  repeat' first | (with_reducible first | exact cC | refine cN cR fun _ => ?_ | refine cT fun _ => ?_ | refine cB fun _ => ?_ | refine cN cC fun _ => ?_ | exact cR)) h
def T126l3 (O : Orc) (k m : Nat) (y1 y2 : Int) (y3 : Nat) (y4 : List V) : Option V := bif decide (y2 ≥ 0) then must (decide (0 ≤ y2)) (must (true && (y3 + 1).ble
 140737488355328 && ((y3 + 1) * 1).ble 140737488355328) (O.L 0 126 4 [true, true, true, true, true, true, false, true] [] m [(3, ref 0), (6, int .u64 y1), (7, int .i64 (i64.wrap (y2 -
 8)))] [Ob.row 5 (y3 + 1) (y4 ++ [int .u8 (u8.wrap (y1.fdiv (2 ^ min y2.toNat 64)))]) false])) else O.L 0 126 6 [true, true, true, true, true, true, true, true, false] [] k [(3, ref 0), (8,
 ptr 1 0)] [Ob.row 5 y3 y4 false, Ob.box 160 [int .u32 1779033703, int .u32 3144134277, int .u32 1013904242, int .u32 2773480762, int .u32 1359893119, int .u32 2600822924, int .u32
 528734635, int .u32 1541459225] false]
theorem E126l3 (y1 y2 y3 y4) {r : V} (h : T126l3 (orcE C) 0 0 y1 y2 y3 y4 = some r) : loopE C 126 4 [true, true, true, true, true, true, false, true] [] [(3, ref
 0), (6, int .u64 y1), (7, int .i64 y2)] [Ob.row 5 y3 y4 false] = some r := ofL (j := 0) (F := fun s => T126l3 (orc C s.k) s.k s.m y1 y2 y3 y4) (fs0 fun _ _ => by kernel_rfl) (by
  unfold T126l3
  repeat' first | (with_reducible first | exact cC | refine cM ?_ | refine cF ?_ ?_) | exact cD0 gK | exact cD0 gM) h
def T157 (O : Orc) (y1 y2 : Int) : Option V := need (O.R 0 91 [int .i64 y1, int .i64 1, int .i64 16]) fun x1 => asTup (some x1) fun x2 => PI.asBool x2[0]?
 fun x3 => bif !x3 then some (tup [int .i64 3, int .i64 0]) else need (O.R 0 91 [int .i64 y2, int .i64 0, int .i64 (i64.wrap (y1 - 1))]) fun x4 => asTup (some x4) fun x5 =>
 PI.asBool x5[0]? fun x6 => bif !x6 then some (tup [int .i64 3, int .i64 0]) else need (O.R 0 150 [int .i64 y1, int .i64 y2]) fun x7 => asTup (some x7) fun x8 => asOsl x8[0]? fun x9 x10 =>
 some (tup [int .i64 0, int .i64 (↑x9 : Int)])
theorem E157 (y1 y2) {r : V} (h : T157 (orcE C) y1 y2 = some r) : runE C 157 [int .i64 y1, int .i64 y2] = some r := ofR (j := 1) (F := fun s => T157 (orc C s.k) y1
 y2) (fun _ => by kernel_rfl) (by
  unfold T157
  repeat' first | (with_reducible first | exact cC | refine cN cR fun _ => ?_ | refine cT fun _ => ?_ | refine cF ?_ ?_ | refine cB fun _ => ?_ | refine cO fun _ _ => ?_ | refine cN cC fun _ => ?_ | exact cR)) h
def T158 (O : Orc) (k : Nat) (y1 : Int) : Option V := O.L 0 158 0 [true, true, false] [] k [(0, int .i64 y1), (3, int .i64 1)] []
theorem E158 (y1) {r : V} (h : T158 (orcE C) 0 y1 = some r) : runE C 158 [int .i64 y1] = some r := ofR (j := 1) (F := fun s => T158 (orc C s.k) s.k y1) (fun _ => by kernel_rfl) (by
  unfold T158
  repeat' first | with_reducible exact cC | exact cD0 gK) h
def T151 (O : Orc) (y1 : Nat) (y2 : List V) (y3 : Nat) (y4 : List V) : Option V := need (O.R 0 96 [str { data := #[(110 : UInt8), (111 : UInt8), (100 : UInt8), (101 :
 UInt8)] }, sl 2 [sl y1 y2, sl y3 y4]]) fun x1 => asTup (some x1) fun x2 => asOsl x2[0]? fun x3 x4 => must (false || x4.all flatV) (some (tup [osl x3 x4]))
theorem E151 (y1 y2 y3 y4) {r : V} (h : T151 (orcE C) y1 y2 y3 y4 = some r) : runE C 151 [sl y1 y2, sl y3 y4] = some r := ofR (j := 1) (F := fun s =>
 T151 (orc C s.k) y1 y2 y3 y4) (fun _ => by kernel_rfl) (by
  unfold T151
  repeat' first | (with_reducible first | exact cC | refine cN cR fun _ => ?_ | refine cT fun _ => ?_ | refine cM ?_ | refine cO fun _ _ => ?_ | refine cN cC fun _ => ?_ | exact cR)) h
def T138l2 (O : Orc) (m : Nat) (y1 y2 : Int) (y3 : Nat) (y4 : List V) : Option V := bif decide (y2 ≥ 0) then must (decide (0 ≤ u64.wrap (i64.wrap (8 *
 y2)))) (must (true && (y3 + 1).ble 140737488355328 && ((y3 + 1) * 1).ble 140737488355328) (O.L 0 138 2 [true, true, true, true, false, true] [] m [(3, ref 0), (4, int .i64 y1), (5, int .i64
 (i64.wrap (y2 - 1)))] [Ob.row 5 (y3 + 1) (y4 ++ [int .u8 (u8.wrap (y1.fdiv (2 ^ min (u64.wrap (i64.wrap (8 * y2))).toNat 64)))]) false])) else some (tup [sl y3
 y4])
theorem E138l2 (y1 y2 y3 y4) {r : V} (h : T138l2 (orcE C) 0 y1 y2 y3 y4 = some r) : loopE C 138 2 [true, true, true, true, false, true] [] [(3, ref 0), (4,
 int .i64 y1), (5, int .i64 y2)] [Ob.row 5 y3 y4 false] = some r := ofL (j := 0) (F := fun s => T138l2 (orc C s.k) s.m y1 y2 y3 y4) (fs0 fun _ _ => by kernel_rfl) (by
  unfold T138l2
  repeat' first | (with_reducible first | exact cC | refine cM ?_ | refine cF ?_ ?_) | exact cD0 gM) h
def T139 (O : Orc) (k : Nat) (y1 : Nat) (y2 : List V) : Option V := O.L 0 139 0 [true, true, false, true] [] k [(0, sl y1 y2), (3, int .i64 0), (4, int .i64 0)] []
theorem E139 (y1 y2) {r : V} (h : T139 (orcE C) 0 y1 y2 = some r) : runE C 139 [sl y1 y2] = some r := ofR (j := 1) (F := fun s => T139 (orc C s.k) s.k y1 y2) (fun _ =>
 by kernel_rfl) (by
  unfold T139
  repeat' first | with_reducible exact cC | exact cD0 gK) h
def T117l4 (O : Orc) (k m q0 : Nat) (y1 : Nat) (y2 : List V) (y3 y4 : Int) (y5 y6 y7 : List V) : Option V := bif decide (y4 < 64) then must (inB
 (i64.wrap (y4 - 15)) 64) (PI.asInt .i64 y7[0 + (i64.wrap (y4 - 15)).toNat * 1]? fun x1 => must (inB (i64.wrap (y4 - 2)) 64) (PI.asInt .i64 y7[0 + (i64.wrap (y4 -
 2)).toNat * 1]? fun x2 => need (O.R 0 140 [int .i64 x1, int .u64 7]) fun x3 => asTup (some x3) fun x4 => PI.asInt .i64 x4[0]? fun x5 => need (O.R 0 140 [int .i64 x1, int .u64 18]) fun x6 =>
 asTup (some x6) fun x7 => PI.asInt .i64 x7[0]? fun x8 => need (O.R 0 140 [int .i64 x2, int .u64 17]) fun x9 => asTup (some x9) fun x10 => PI.asInt .i64 x10[0]? fun x11 => need (O.R 0 140 [int
 .i64 x2, int .u64 19]) fun x12 => asTup (some x12) fun x13 => PI.asInt .i64 x13[0]? fun x14 => must (inB (i64.wrap (y4 - 7)) 64) (PI.asInt .i64 y7[0 + (i64.wrap (y4 - 7)).toNat * 1]?
 fun x15 => must (inB (i64.wrap (y4 - 16)) 64) (PI.asInt .i64 y7[0 + (i64.wrap (y4 - 16)).toNat * 1]? fun x16 => must (inB y4 64) (must ((int .i64 ((i64.wrap (i64.wrap
 (i64.wrap (PI.bits i64 (fun x1 x2 => x1 ^^^ x2) (PI.bits i64 (fun x1 x2 => x1 ^^^ x2) x11 x14) (x2.fdiv 1024) + x15) + PI.bits i64 (fun x1 x2 => x1 ^^^ x2) (PI.bits
 i64 (fun x1 x2 => x1 ^^^ x2) x5 x8) (x1.fdiv 8)) + x16)).tmod 4294967296)).solid && true && (0 + y4.toNat * 1 + 1).ble y7.length && flatB C 148 [int .i64 ((i64.wrap (i64.wrap
 (i64.wrap (PI.bits i64 (fun x1 x2 => x1 ^^^ x2) (PI.bits i64 (fun x1 x2 => x1 ^^^ x2) x11 x14) (x2.fdiv 1024) + x15) + PI.bits i64 (fun x1 x2 => x1 ^^^ x2) (PI.bits
 i64 (fun x1 x2 => x1 ^^^ x2) x5 x8) (x1.fdiv 8)) + x16)).tmod 4294967296)]) (O.L 0 117 4 [true, true, true, true, false, true, false, true, false, false, true, true, false, true] [q0] m [(3,
 ptr 0 0), (4, ptr 1 0), (5, sl y1 y2), (6, int .i64 y3), (7, ptr 2 0), (9, int .i64 (i64.wrap (y4 + 1)))] [Ob.box 148 y5 false, Ob.box 150 y6 false, Ob.box 148 (splice y7 (0 +
 y4.toNat * 1) [int .i64 ((i64.wrap (i64.wrap (i64.wrap (PI.bits i64 (fun x1 x2 => x1 ^^^ x2) (PI.bits i64 (fun x1 x2 => x1 ^^^ x2) x11 x14) (x2.fdiv 1024) +
 x15) + PI.bits i64 (fun x1 x2 => x1 ^^^ x2) (PI.bits i64 (fun x1 x2 => x1 ^^^ x2) x5 x8) (x1.fdiv 8)) + x16)).tmod 4294967296)]) false])))))) else PI.asInt .i64 y6[0]? fun x17 =>
 PI.asInt .i64 y6[1]? fun x18 => PI.asInt .i64 y6[2]? fun x19 => PI.asInt .i64 y6[3]? fun x20 => PI.asInt .i64 y6[4]? fun x21 => PI.asInt .i64 y6[5]? fun x22 => PI.asInt .i64 y6[6]? fun x23 => PI.asInt
 .i64 y6[7]? fun x24 => O.L 0 117 6 [true, true, true, true, false, true, false, true, false, false, true, true, true, true, false, true] [q0] k [(3, ptr 0 0), (4, ptr 1 0), (5, sl y1 y2), (6,
 int .i64 y3), (7, ptr 2 0), (14, ptr 3 0), (15, int .i64 0)] [Ob.box 148 y5 false, Ob.box 150 y6 false, Ob.box 148 y7 false, Ob.box 150 [int .i64 x17, int .i64 x18, int .i64 x19, int
 .i64 x20, int .i64 x21, int .i64 x22, int .i64 x23, int .i64 x24] false]
theorem E117l4 (y1 y2 y3 y4 y5 y6 y7) {r : V} (h : T117l4 (orcE C) 0 0 0 y1 y2 y3 y4 y5 y6 y7 = some r) : loopE C 117 4 [true, true,
 true, true, false, true, false, true, false, false, true, true, false, true] [0] [(3, ptr 0 0), (4, ptr 1 0), (5, sl y1 y2), (6, int .i64 y3), (7, ptr 2 0), (9, int .i64 y4)] [Ob.box 148
 y5 false, Ob.box 150 y6 false, Ob.box 148 y7 false] = some r := ofL (j := 0) (F := fun s => T117l4 (orc C s.k) s.k s.m (s.fs.getD 0 0) y1 y2 y3 y4 y5 y6 y7) (fs1 fun _ _ _ => by kernel_rfl) (by
  unfold T117l4
  repeat' first | (with_reducible first | exact cC | refine cN cR fun _ => ?_ | refine cT fun _ => ?_ | refine cI fun _ => ?_ | refine cM ?_ | refine cF ?_ ?_ | refine cN cC fun _ => ?_ | exact cR) | exact cD1 gK (gF (i := 0) (by decide)) | exact cD1 gM (gF (i := 0) (by decide))) h
def T117l5 (O : Orc) (m q0 : Nat) (y1 y2 : Int) (y3 : List V) (y4 : Nat) (y5 : List V) : Option V := bif decide (y2 ≥ 0) then must (inB y1 8) (PI.asInt .i64 y3[0 + y1.toNat *
 1]? fun x1 => must (decide (0 ≤ u64.wrap (i64.wrap (8 * y2)))) (must (true && (y4 + 1).ble 140737488355328 && ((y4 + 1) * 1).ble 140737488355328) (O.L 0 117 12 [true, true, true, true,
 true, true, false, true, false, true, false, false, true] [q0] m [(4, ptr 0 0), (17, ref 1), (18, int .i64 y1), (19, int .i64 (i64.wrap (y2 - 1)))] [Ob.box 150 y3 false, Ob.row 5 (y4 +
 1) (y5 ++ [int .u8 (u8.wrap (x1.fdiv (2 ^ min (u64.wrap (i64.wrap (8 * y2))).toNat 64)))]) false]))) else O.L 0 117 10 [true, true, true, true, true, true, false, true] [] q0
 [(4, ptr 0 0), (17, ref 1), (18, int .i64 (i64.wrap (y1 + 1)))] [Ob.box 150 y3 false, Ob.row 5 y4 y5 false]
theorem E117l5 (y1 y2 y3 y4 y5) {r : V} (h : T117l5 (orcE C) 0 0 y1 y2 y3 y4 y5 = some r) : loopE C 117 12 [true, true, true, true, true, true, false,
 true, false, true, false, false, true] [0] [(4, ptr 0 0), (17, ref 1), (18, int .i64 y1), (19, int .i64 y2)] [Ob.box 150 y3 false, Ob.row 5 y4 y5 false] = some r := ofL (j := 0) (F := fun s =>
 T117l5 (orc C s.k) s.m (s.fs.getD 0 0) y1 y2 y3 y4 y5) (fs1 fun _ _ _ => by kernel_rfl) (by
  unfold T117l5
  repeat' first | (with_reducible first | exact cC | refine cI fun _ => ?_ | refine cM ?_ | refine cF ?_ ?_) | exact cD0 (gF (i := 0) (by decide)) | exact cD1 gM (gF (i := 0) (by decide))) h
def T115l2 (O : Orc) (m : Nat) (y1 : Int) (y2 : Nat) (y3 : List V) : Option V := bif decide (y1 > 0) then need (O.R 0 77 [str { data := #[(115 : UInt8), (116 : UInt8), (101 :
 UInt8), (112 : UInt8)] }, sl y2 y3]) fun x1 => asTup (some x1) fun x2 => asOsl x2[0]? fun x3 x4 => O.L 0 115 0 [true, false] [] m [(0, ref 0), (1, int .i64 (i64.wrap (y1 - 1)))] [Ob.row
 5 x3 x4 false] else must (decide (y3.length = y2 * 1)) (must (true && (0 + y2).ble 140737488355328 && ((0 + y2) * 1).ble 140737488355328) (must (false || y3.all flatV) (some (tup [osl (0 + y2)
 y3]))))
theorem E115l2 (y1 y2 y3) {r : V} (h : T115l2 (orcE C) 0 y1 y2 y3 = some r) : loopE C 115 0 [true, false] [] [(0, ref 0), (1, int .i64 y1)] [Ob.row 5 y2 y3 false] =
 some r := ofL (j := 0) (F := fun s => T115l2 (orc C s.k) s.m y1 y2 y3) (fs0 fun _ _ => by kernel_rfl) (by
  unfold T115l2
  repeat' first | (with_reducible first | exact cC | refine cN cR fun _ => ?_ | refine cT fun _ => ?_ | refine cM ?_ | refine cF ?_ ?_ | refine cO fun _ _ => ?_ | refine cN cC fun _ => ?_ | exact cR) | exact cD0 gM) h
def T155 (O : Orc) (k : Nat) (y1 : Int) : Option V := O.L 0 155 0 [true, true, false] [] k [(0, int .i64 y1), (3, int .i64 1)] []
theorem E155 (y1) {r : V} (h : T155 (orcE C) 0 y1 = some r) : runE C 155 [int .i64 y1] = some r := ofR (j := 1) (F := fun s => T155 (orc C s.k) s.k y1) (fun _ => by kernel_rfl) (by
  unfold T155
  repeat' first | with_reducible exact cC | exact cD0 gK) h
def T135 (O : Orc) (y1 : Nat) (y2 : List V) (y3 : Nat) (y4 : List V) : Option V := must (decide (y2.length = y1 * 1)) (must (true && (0 + y1).ble 140737488355328 && ((0
 + y1) * 1).ble 140737488355328) (must (decide (y4.length = y3 * 1)) (must (true && (0 + y1 + y3).ble 140737488355328 && ((0 + y1 + y3) * 1).ble 140737488355328) (need (O.R 0 77 [str { data := #[(110
 : UInt8), (111 : UInt8), (100 : UInt8), (101 : UInt8)] }, sl (0 + y1 + y3) (y2 ++ y4)]) fun x1 => asTup (some x1) fun x2 => asOsl x2[0]? fun x3 x4 => must (false || x4.all flatV) (some (tup [osl
 x3 x4]))))))
theorem E135 (y1 y2 y3 y4) {r : V} (h : T135 (orcE C) y1 y2 y3 y4 = some r) : runE C 135 [sl y1 y2, sl y3 y4] = some r := ofR (j := 1) (F := fun s =>
 T135 (orc C s.k) y1 y2 y3 y4) (fun _ => by kernel_rfl) (by
  unfold T135
  repeat' first | (with_reducible first | exact cC | refine cN cR fun _ => ?_ | refine cT fun _ => ?_ | refine cM ?_ | refine cO fun _ _ => ?_ | refine cN cC fun _ => ?_ | exact cR)) h
def T126l4 (O : Orc) (k m : Nat) (y1 : Nat) (y2 y3 : List V) : Option V := bif decide ((↑y1 : Int) > 0) then PI.asInt .u32 y3[0]? fun x1 => PI.asInt .u32 y3[1]? fun x2 =>
 PI.asInt .u32 y3[2]? fun x3 => PI.asInt .u32 y3[3]? fun x4 => PI.asInt .u32 y3[4]? fun x5 => PI.asInt .u32 y3[5]? fun x6 => PI.asInt .u32 y3[6]? fun x7 => PI.asInt .u32 y3[7]? fun x8 => must (true &&
 decide (64 ≤ (↑y1 : Int))) (need (O.R 0 152 [agg [int .u32 x1, int .u32 x2, int .u32 x3, int .u32 x4, int .u32 x5, int .u32 x6, int .u32 x7, int .u32 x8], sl 64 (List.take 64
 (List.drop 0 y2))]) fun x9 => asTup (some x9) fun x10 => PI.asInt .u32 x10[0]? fun x11 => PI.asInt .u32 x10[1]? fun x12 => PI.asInt .u32 x10[2]? fun x13 => PI.asInt .u32 x10[3]? fun x14 => PI.asInt
 .u32 x10[4]? fun x15 => PI.asInt .u32 x10[5]? fun x16 => PI.asInt .u32 x10[6]? fun x17 => PI.asInt .u32 x10[7]? fun x18 => must ([int .u32 x11, int .u32 x12, int .u32 x13, int .u32 x14, int
 .u32 x15, int .u32 x16, int .u32 x17, int .u32 x18].length.beq 8 && true && (0 + [int .u32 x11, int .u32 x12, int .u32 x13, int .u32 x14, int .u32 x15, int .u32 x16, int .u32 x17,
 int .u32 x18].length).ble y3.length && flatB C 160 [int .u32 x11, int .u32 x12, int .u32 x13, int .u32 x14, int .u32 x15, int .u32 x16, int .u32 x17, int .u32 x18]) (must (true &&
 decide (64 ≤ (↑y1 : Int))) (O.L 0 126 6 [true, true, true, true, true, true, true, true, false] [] m [(3, sl (y1 - 64) (List.take ((y1 - 64) * 1) (List.drop 64 y2))), (8, ptr 0 0)] [Ob.box 160
 (splice y3 0 [int .u32 x11, int .u32 x12, int .u32 x13, int .u32 x14, int .u32 x15, int .u32 x16, int .u32 x17, int .u32 x18]) false]))) else PI.asInt .u32 y3[0]? fun x19 => PI.asInt
 .u32 y3[1]? fun x20 => PI.asInt .u32 y3[2]? fun x21 => PI.asInt .u32 y3[3]? fun x22 => PI.asInt .u32 y3[4]? fun x23 => PI.asInt .u32 y3[5]? fun x24 => PI.asInt .u32 y3[6]? fun x25 => PI.asInt .u32
 y3[7]? fun x26 => O.L 0 126 8 [true, true, true, true, true, true, true, true, true, true, false, true] [] k [(9, ref 0), (59, agg [int .u32 x19, int .u32 x20, int .u32 x21, int .u32 x22,
 int .u32 x23, int .u32 x24, int .u32 x25, int .u32 x26]), (60, int .i64 0)] [Ob.row 5 0 [] false]
theorem E126l4 (y1 y2 y3) {r : V} (h : T126l4 (orcE C) 0 0 y1 y2 y3 = some r) : loopE C 126 6 [true, true, true, true, true, true, true, true, false] [] [(3, ref 0),
 (8, ptr 1 0)] [Ob.row 5 y1 y2 false, Ob.box 160 y3 false] = some r := ofL (j := 0) (F := fun s => T126l4 (orc C s.k) s.k s.m y1 y2 y3) (fs0 fun _ _ => by kernel_rfl) (by
  unfold T126l4
  repeat' first | (with_reducible first | exact cC | refine cN cR fun _ => ?_ | refine cT fun _ => ?_ | refine cI fun _ => ?_ | refine cM ?_ | refine cF ?_ ?_ | refine cN cC fun _ => ?_ | exact cR) | exact cD0 gK | exact cD0 gM) h
def T158l1 (O : Orc) (m : Nat) (y1 y2 : Int) : Option V := bif decide (i64.wrap (2 * y2) < y1) then O.L 0 158 0 [true, true, false] [] m [(0, int .i64 y1), (3,
 int .i64 (i64.wrap (y2 * 2)))] [] else some (tup [int .i64 y2])
theorem E158l1 (y1 y2) {r : V} (h : T158l1 (orcE C) 0 y1 y2 = some r) : loopE C 158 0 [true, true, false] [] [(0, int .i64 y1), (3, int .i64 y2)] [] = some r := ofL (j := 0) (F
 := fun s => T158l1 (orc C s.k) s.m y1 y2) (fs0 fun _ _ => by kernel_rfl) (by
  unfold T158l1
  repeat' first | (with_reducible first | exact cC | refine cF ?_ ?_) | exact cD0 gM) h
def T139l1 (O : Orc) (m : Nat) (y1 : Nat) (y2 : List V) (y3 y4 : Int) : Option V := bif decide (y4 < (↑y1 : Int)) then must (inB y4 y1) (PI.asInt .u8 y2[y4.toNat * 1]? fun
 x1 => O.L 0 139 0 [true, true, false, true] [] m [(0, sl y1 y2), (3, int .i64 (i64.wrap (i64.wrap (y3 * 256) + i64.wrap x1))), (4, int .i64 (i64.wrap (y4 + 1)))]
 []) else some (tup [int .i64 y3])
theorem E139l1 (y1 y2 y3 y4) {r : V} (h : T139l1 (orcE C) 0 y1 y2 y3 y4 = some r) : loopE C 139 0 [true, true, false, true] [] [(0, sl y1 y2), (3, int .i64
 y3), (4, int .i64 y4)] [] = some r := ofL (j := 0) (F := fun s => T139l1 (orc C s.k) s.m y1 y2 y3 y4) (fs0 fun _ _ => by kernel_rfl) (by
  unfold T139l1
  repeat' first | (with_reducible first | exact cC | refine cI fun _ => ?_ | refine cM ?_ | refine cF ?_ ?_) | exact cD0 gM) h
def T140 (O : Orc) (y1 y2 : Int) : Option V := must (decide (0 ≤ y2)) (must (decide (0 ≤ u64.wrap (32 - y2))) (some (tup [int .i64 ((PI.bits
 i64 (fun x1 x2 => x1 ||| x2) (y1.fdiv (2 ^ min y2.toNat 64)) (i64.wrap (y1 * 2 ^ min (u64.wrap (32 - y2)).toNat 64))).tmod 4294967296)])))
theorem E140 (y1 y2) {r : V} (h : T140 (orcE C) y1 y2 = some r) : runE C 140 [int .i64 y1, int .u64 y2] = some r := ofR (j := 1) (F := fun s => T140 (orc C s.k) y1
 y2) (fun _ => by kernel_rfl) (by
  unfold T140
  repeat' first | (with_reducible first | exact cC | refine cM ?_)) h
def T117l6 (O : Orc) (k m q0 : Nat) (y1 : Nat) (y2 : List V) (y3 y4 : Int) (y5 y6 y7 y8 : List V) : Option V := bif decide (y4 < 64) then
 PI.asInt .i64 y8[0]? fun x1 => PI.asInt .i64 y8[1]? fun x2 => PI.asInt .i64 y8[2]? fun x3 => PI.asInt .i64 y8[3]? fun x4 => PI.asInt .i64 y8[4]? fun x5 => PI.asInt .i64 y8[5]? fun x6 => PI.asInt .i64
 y8[6]? fun x7 => PI.asInt .i64 y8[7]? fun x8 => must (inB y4 64) (PI.asInt .i64 y7[0 + y4.toNat * 1]? fun x9 => must (inB y4 64) (PI.asInt .i64 y5[0 + y4.toNat * 1]? fun x10 => need (O.R 0 141 [agg
 [int .i64 x1, int .i64 x2, int .i64 x3, int .i64 x4, int .i64 x5, int .i64 x6, int .i64 x7, int .i64 x8], int .i64 x9, int .i64 x10]) fun x11 => asTup (some x11) fun x12 =>
 PI.asInt .i64 x12[0]? fun x13 => PI.asInt .i64 x12[1]? fun x14 => PI.asInt .i64 x12[2]? fun x15 => PI.asInt .i64 x12[3]? fun x16 => PI.asInt .i64 x12[4]? fun x17 => PI.asInt .i64 x12[5]? fun x18 =>
 PI.asInt .i64 x12[6]? fun x19 => PI.asInt .i64 x12[7]? fun x20 => must ([int .i64 x13, int .i64 x14, int .i64 x15, int .i64 x16, int .i64 x17, int .i64 x18, int .i64 x19, int .i64
 x20].length.beq 8 && true && (0 + [int .i64 x13, int .i64 x14, int .i64 x15, int .i64 x16, int .i64 x17, int .i64 x18, int .i64 x19, int .i64 x20].length).ble y8.length && flatB C 150
 [int .i64 x13, int .i64 x14, int .i64 x15, int .i64 x16, int .i64 x17, int .i64 x18, int .i64 x19, int .i64 x20]) (O.L 0 117 6 [true, true, true, true, false, true, false, true, false,
 false, true, true, true, true, false, true] [q0] m [(3, ptr 0 0), (4, ptr 1 0), (5, sl y1 y2), (6, int .i64 y3), (7, ptr 2 0), (14, ptr 3 0), (15, int .i64 (i64.wrap (y4 + 1)))]
 [Ob.box 148 y5 false, Ob.box 150 y6 false, Ob.box 148 y7 false, Ob.box 150 (splice y8 0 [int .i64 x13, int .i64 x14, int .i64 x15, int .i64 x16, int .i64 x17, int .i64 x18, int .i64 x19,
 int .i64 x20]) false]))) else O.L 0 117 8 [true, true, true, true, false, true, false, true, false, false, true, true, true, true, true, true] [q0] k [(3, ptr 0 0), (4, ptr 1 0), (5, sl y1
 y2), (6, int .i64 y3), (14, ptr 2 0), (16, int .i64 0)] [Ob.box 148 y5 false, Ob.box 150 y6 false, Ob.box 150 y8 false]
theorem E117l6 (y1 y2 y3 y4 y5 y6 y7 y8) {r : V} (h : T117l6 (orcE C) 0 0 0 y1 y2 y3 y4 y5 y6 y7 y8 = some r) : loopE C
 117 6 [true, true, true, true, false, true, false, true, false, false, true, true, true, true, false, true] [0] [(3, ptr 0 0), (4, ptr 1 0), (5, sl y1 y2), (6, int .i64 y3), (7, ptr 2 0),
 (14, ptr 3 0), (15, int .i64 y4)] [Ob.box 148 y5 false, Ob.box 150 y6 false, Ob.box 148 y7 false, Ob.box 150 y8 false] = some r := ofL (j := 0) (F := fun s => T117l6 (orc C s.k) s.k s.m (s.fs.getD
 0 0) y1 y2 y3 y4 y5 y6 y7 y8) (fs1 fun _ _ _ => by kernel_rfl) (by
  unfold T117l6
  repeat' first | (with_reducible first | exact cC | refine cN cR fun _ => ?_ | refine cT fun _ => ?_ | refine cI fun _ => ?_ | refine cM ?_ | refine cF ?_ ?_ | refine cN cC fun _ => ?_ | exact cR) | exact cD1 gK (gF (i := 0) (by decide)) | exact cD1 gM (gF (i := 0) (by decide))) h
def T155l1 (O : Orc) (m : Nat) (y1 y2 : Int) : Option V := bif decide (i64.wrap (2 * y2) < y1) then O.L 0 155 0 [true, true, false] [] m [(0, int .i64 y1), (3,
 int .i64 (i64.wrap (2 * y2)))] [] else some (tup [int .i64 y2])
theorem E155l1 (y1 y2) {r : V} (h : T155l1 (orcE C) 0 y1 y2 = some r) : loopE C 155 0 [true, true, false] [] [(0, int .i64 y1), (3, int .i64 y2)] [] = some r := ofL (j := 0) (F
 := fun s => T155l1 (orc C s.k) s.m y1 y2) (fs0 fun _ _ => by kernel_rfl) (by
  unfold T155l1
  repeat' first | (with_reducible first | exact cC | refine cF ?_ ?_) | exact cD0 gM) h
def T152 (O : Orc) (k : Nat) (y1 y2 y3 y4 y5 y6 y7 y8 : Int) (y9 : Nat) (y10 : List V) : Option V := O.L 0 152 0 [true,
 true, false, true] [] k [(1, sl y9 y10), (2, ptr 0 0), (4, ptr 1 0), (5, ptr 2 0), (16, int .i64 0)] [Ob.box 160 [int .u32 y1, int .u32 y2, int .u32 y3, int .u32 y4, int .u32 y5,
 int .u32 y6, int .u32 y7, int .u32 y8] false, Ob.box 160 [int .u32 0, int .u32 0, int .u32 0, int .u32 0, int .u32 0, int .u32 0, int .u32 0, int .u32 0] false, Ob.box 168 [int
 .u32 0, int .u32 0, int .u32 0, int .u32 0, int .u32 0, int .u32 0, int .u32 0, int .u32 0, int .u32 0, int .u32 0, int .u32 0, int .u32 0, int .u32 0, int .u32 0, int .u32
 0, int .u32 0, int .u32 0, int .u32 0, int .u32 0, int .u32 0, int .u32 0, int .u32 0, int .u32 0, int .u32 0, int .u32 0, int .u32 0, int .u32 0, int .u32 0, int .u32 0,
 int .u32 0, int .u32 0, int .u32 0, int .u32 0, int .u32 0, int .u32 0, int .u32 0, int .u32 0, int .u32 0, int .u32 0, int .u32 0, int .u32 0, int .u32 0, int .u32 0,
 int .u32 0, int .u32 0, int .u32 0, int .u32 0, int .u32 0, int .u32 0, int .u32 0, int .u32 0, int .u32 0, int .u32 0, int .u32 0, int .u32 0, int .u32 0, int .u32 0,
 int .u32 0, int .u32 0, int .u32 0, int .u32 0, int .u32 0, int .u32 0, int .u32 0] false]
theorem E152 (y1 y2 y3 y4 y5 y6 y7 y8 y9 y10) {r : V} (h : T152 (orcE C) 0 y1 y2 y3 y4 y5 y6 y7 y8 y9 y10 = some
 r) : runE C 152 [agg [int .u32 y1, int .u32 y2, int .u32 y3, int .u32 y4, int .u32 y5, int .u32 y6, int .u32 y7, int .u32 y8], sl y9 y10] = some r := ofR (j := 1) (F := fun s =>
 T152 (orc C s.k) s.k y1 y2 y3 y4 y5 y6 y7 y8 y9 y10) (fun _ => by kernel_rfl) (by
  unfold T152
  repeat' first | with_reducible exact cC | exact cD0 gK) h
def T126l5 (O : Orc) (k m : Nat) (y1 : Nat) (y2 y3 : List V) : Option V := bif decide ((↑y1 : Int) > 0) then PI.asInt .u32 y3[0]? fun x1 => PI.asInt .u32 y3[1]? fun x2 =>
 PI.asInt .u32 y3[2]? fun x3 => PI.asInt .u32 y3[3]? fun x4 => PI.asInt .u32 y3[4]? fun x5 => PI.asInt .u32 y3[5]? fun x6 => PI.asInt .u32 y3[6]? fun x7 => PI.asInt .u32 y3[7]? fun x8 => must (true &&
 decide (64 ≤ (↑y1 : Int))) (need (O.R 0 152 [agg [int .u32 x1, int .u32 x2, int .u32 x3, int .u32 x4, int .u32 x5, int .u32 x6, int .u32 x7, int .u32 x8], sl 64 (List.take 64
 (List.drop 0 y2))]) fun x9 => asTup (some x9) fun x10 => PI.asInt .u32 x10[0]? fun x11 => PI.asInt .u32 x10[1]? fun x12 => PI.asInt .u32 x10[2]? fun x13 => PI.asInt .u32 x10[3]? fun x14 => PI.asInt
 .u32 x10[4]? fun x15 => PI.asInt .u32 x10[5]? fun x16 => PI.asInt .u32 x10[6]? fun x17 => PI.asInt .u32 x10[7]? fun x18 => must ([int .u32 x11, int .u32 x12, int .u32 x13, int .u32 x14, int
 .u32 x15, int .u32 x16, int .u32 x17, int .u32 x18].length.beq 8 && true && (0 + [int .u32 x11, int .u32 x12, int .u32 x13, int .u32 x14, int .u32 x15, int .u32 x16, int .u32 x17,
 int .u32 x18].length).ble y3.length && flatB C 160 [int .u32 x11, int .u32 x12, int .u32 x13, int .u32 x14, int .u32 x15, int .u32 x16, int .u32 x17, int .u32 x18]) (must (true &&
 decide (64 ≤ (↑y1 : Int))) (O.L 0 126 6 [true, true, true, true, true, true, true, true, false] [] m [(3, sl (y1 - 64) (List.take ((y1 - 64) * 1) (List.drop 64 y2))), (8, ptr 0 0)] [Ob.box 160
 (splice y3 0 [int .u32 x11, int .u32 x12, int .u32 x13, int .u32 x14, int .u32 x15, int .u32 x16, int .u32 x17, int .u32 x18]) false]))) else PI.asInt .u32 y3[0]? fun x19 => PI.asInt
 .u32 y3[1]? fun x20 => PI.asInt .u32 y3[2]? fun x21 => PI.asInt .u32 y3[3]? fun x22 => PI.asInt .u32 y3[4]? fun x23 => PI.asInt .u32 y3[5]? fun x24 => PI.asInt .u32 y3[6]? fun x25 => PI.asInt .u32
 y3[7]? fun x26 => O.L 0 126 8 [true, true, true, true, true, true, true, true, true, true, false, true] [] k [(9, ref 0), (59, agg [int .u32 x19, int .u32 x20, int .u32 x21, int .u32 x22,
 int .u32 x23, int .u32 x24, int .u32 x25, int .u32 x26]), (60, int .i64 0)] [Ob.row 5 0 [] false]
theorem E126l5 (y1 y2 y3) {r : V} (h : T126l5 (orcE C) 0 0 y1 y2 y3 = some r) : loopE C 126 6 [true, true, true, true, true, true, true, true, false] [] [(3, sl y1
 y2), (8, ptr 0 0)] [Ob.box 160 y3 false] = some r := ofL (j := 0) (F := fun s => T126l5 (orc C s.k) s.k s.m y1 y2 y3) (fs0 fun _ _ => by kernel_rfl) (by
  unfold T126l5
  repeat' first | (with_reducible first | exact cC | refine cN cR fun _ => ?_ | refine cT fun _ => ?_ | refine cI fun _ => ?_ | refine cM ?_ | refine cF ?_ ?_ | refine cN cC fun _ => ?_ | exact cR) | exact cD0 gK | exact cD0 gM) h
def T126l6 (O : Orc) (m : Nat) (y1 y2 y3 y4 y5 y6 y7 y8 y9 : Int) (y10 : Nat) (y11 : List V) : Option V := bif
 decide (y9 < 8) then must (inB y9 8) (PI.asInt .u32 [int .u32 y1, int .u32 y2, int .u32 y3, int .u32 y4, int .u32 y5, int .u32 y6, int .u32 y7, int .u32 y8][y9.toNat * 1]? fun x1 =>
 must (true && (y10 + 4).ble 140737488355328 && ((y10 + 4) * 1).ble 140737488355328) (O.L 0 126 8 [true, true, true, true, true, true, true, true, true, true, false, true] [] m [(9, ref 0), (59,
 agg [int .u32 y1, int .u32 y2, int .u32 y3, int .u32 y4, int .u32 y5, int .u32 y6, int .u32 y7, int .u32 y8]), (60, int .i64 (i64.wrap (y9 + 1)))] [Ob.row 5 (y10 + 4) (y11
 ++ [int .u8 (u8.wrap (x1.fdiv 16777216)), int .u8 (u8.wrap (x1.fdiv 65536)), int .u8 (u8.wrap (x1.fdiv 256)), int .u8 (u8.wrap x1)]) false])) else must (false
 || y11.all flatV) (some (tup [osl y10 y11]))
theorem E126l6 (y1 y2 y3 y4 y5 y6 y7 y8 y9 y10 y11) {r : V} (h : T126l6 (orcE C) 0 y1 y2 y3 y4 y5 y6 y7 y8
 y9 y10 y11 = some r) : loopE C 126 8 [true, true, true, true, true, true, true, true, true, true, false, true] [] [(9, ref 0), (59, agg [int .u32 y1, int .u32 y2, int .u32 y3, int .u32 y4,
 int .u32 y5, int .u32 y6, int .u32 y7, int .u32 y8]), (60, int .i64 y9)] [Ob.row 5 y10 y11 false] = some r := ofL (j := 0) (F := fun s => T126l6 (orc C s.k) s.m y1 y2 y3 y4 y5 y6 y7
 y8 y9 y10 y11) (fs0 fun _ _ => by kernel_rfl) (by
  unfold T126l6
  repeat' first | (with_reducible first | exact cC | refine cI fun _ => ?_ | refine cM ?_ | refine cF ?_ ?_) | exact cD0 gM) h
def T141 (O : Orc) (y1 y2 y3 y4 y5 y6 y7 y8 y9 y10 : Int) : Option V := need (O.R 0 140 [int
 .i64 y5, int .u64 6]) fun x1 => asTup (some x1) fun x2 => PI.asInt .i64 x2[0]? fun x3 => need (O.R 0 140 [int .i64 y5, int .u64 11]) fun x4 => asTup (some x4) fun x5 => PI.asInt .i64 x5[0]? fun
 x6 => need (O.R 0 140 [int .i64 y5, int .u64 25]) fun x7 => asTup (some x7) fun x8 => PI.asInt .i64 x8[0]? fun x9 => need (O.R 0 156 [int .i64 y5]) fun x10 => asTup (some x10) fun x11 =>
 PI.asInt .i64 x11[0]? fun x12 => need (O.R 0 140 [int .i64 y1, int .u64 2]) fun x13 => asTup (some x13) fun x14 => PI.asInt .i64 x14[0]? fun x15 => need (O.R 0 140 [int .i64 y1, int .u64 13])
 fun x16 => asTup (some x16) fun x17 => PI.asInt .i64 x17[0]? fun x18 => need (O.R 0 140 [int .i64 y1, int .u64 22]) fun x19 => asTup (some x19) fun x20 => PI.asInt .i64 x20[0]? fun x21 => some
 (tup [int .i64 ((i64.wrap ((i64.wrap (i64.wrap (i64.wrap (i64.wrap (y8 + PI.bits i64 (fun x1 x2 => x1 ^^^ x2) (PI.bits i64 (fun x1 x2 => x1
 ^^^ x2) x3 x6) x9) + PI.bits i64 (fun x1 x2 => x1 ^^^ x2) (PI.bits i64 (fun x1 x2 => x1 &&& x2) y5 y6) (PI.bits i64 (fun x1 x2 => x1 &&& x2) x12 y7)) + y10) + y9)).tmod
 4294967296 + (i64.wrap (PI.bits i64 (fun x1 x2 => x1 ^^^ x2) (PI.bits i64 (fun x1 x2 => x1 ^^^ x2) x15 x18) x21 + PI.bits i64 (fun x1 x2 => x1 ^^^ x2) (PI.bits
 i64 (fun x1 x2 => x1 ^^^ x2) (PI.bits i64 (fun x1 x2 => x1 &&& x2) y1 y2) (PI.bits i64 (fun x1 x2 => x1 &&& x2) y1 y3)) (PI.bits i64 (fun x1 x2 => x1 &&& x2) y2
 y3))).tmod 4294967296)).tmod 4294967296), int .i64 y1, int .i64 y2, int .i64 y3, int .i64 ((i64.wrap (y4 + (i64.wrap (i64.wrap (i64.wrap (i64.wrap (y8 +
 PI.bits i64 (fun x1 x2 => x1 ^^^ x2) (PI.bits i64 (fun x1 x2 => x1 ^^^ x2) x3 x6) x9) + PI.bits i64 (fun x1 x2 => x1 ^^^ x2) (PI.bits i64 (fun x1 x2 => x1 &&& x2) y5
 y6) (PI.bits i64 (fun x1 x2 => x1 &&& x2) x12 y7)) + y10) + y9)).tmod 4294967296)).tmod 4294967296), int .i64 y5, int .i64 y6, int .i64 y7])
theorem E141 (y1 y2 y3 y4 y5 y6 y7 y8 y9 y10) {r : V} (h : T141 (orcE C) y1 y2 y3 y4 y5 y6 y7 y8 y9 y10 = some r) :
 runE C 141 [agg [int .i64 y1, int .i64 y2, int .i64 y3, int .i64 y4, int .i64 y5, int .i64 y6, int .i64 y7, int .i64 y8], int .i64 y9, int .i64 y10] = some r := ofR (j := 1) (F
 := fun s => T141 (orc C s.k) y1 y2 y3 y4 y5 y6 y7 y8 y9 y10) (fun _ => by kernel_rfl) (by
  unfold T141
  repeat' first | (with_reducible first | exact cC | refine cN cR fun _ => ?_ | refine cT fun _ => ?_ | refine cI fun _ => ?_ | refine cN cC fun _ => ?_ | exact cR)) h
def T117l7 (O : Orc) (m q0 : Nat) (y1 : Nat) (y2 : List V) (y3 y4 : Int) (y5 y6 y7 : List V) : Option V := bif decide (y4 < 8) then must (inB y4 8)
 (PI.asInt .i64 y6[0 + y4.toNat * 1]? fun x1 => must (inB y4 8) (PI.asInt .i64 y7[0 + y4.toNat * 1]? fun x2 => must (inB y4 8) (must ((int .i64 ((i64.wrap (x1 + x2)).tmod 4294967296)).solid
 && true && (0 + y4.toNat * 1 + 1).ble y6.length && flatB C 150 [int .i64 ((i64.wrap (x1 + x2)).tmod 4294967296)]) (O.L 0 117 8 [true, true, true, true, false, true, false, true, false,
 false, true, true, true, true, true, true] [q0] m [(3, ptr 0 0), (4, ptr 1 0), (5, sl y1 y2), (6, int .i64 y3), (14, ptr 2 0), (16, int .i64 (i64.wrap (y4 + 1)))] [Ob.box 148 y5
 false, Ob.box 150 (splice y6 (0 + y4.toNat * 1) [int .i64 ((i64.wrap (x1 + x2)).tmod 4294967296)]) false, Ob.box 150 y7 false])))) else O.L 0 117 0 [true, true, true, true, false, true] []
 q0 [(3, ptr 0 0), (4, ptr 1 0), (5, sl y1 y2), (6, int .i64 (i64.wrap (y3 + 64)))] [Ob.box 148 y5 false, Ob.box 150 y6 false]
theorem E117l7 (y1 y2 y3 y4 y5 y6 y7) {r : V} (h : T117l7 (orcE C) 0 0 y1 y2 y3 y4 y5 y6 y7 = some r) : loopE C 117 8 [true, true,
 true, true, false, true, false, true, false, false, true, true, true, true, true, true] [0] [(3, ptr 0 0), (4, ptr 1 0), (5, sl y1 y2), (6, int .i64 y3), (14, ptr 2 0), (16, int .i64 y4)]
 [Ob.box 148 y5 false, Ob.box 150 y6 false, Ob.box 150 y7 false] = some r := ofL (j := 0) (F := fun s => T117l7 (orc C s.k) s.m (s.fs.getD 0 0) y1 y2 y3 y4 y5 y6 y7) (fs1 fun _ _ _ => by
 kernel_rfl) (by
  unfold T117l7
  repeat' first | (with_reducible first | exact cC | refine cI fun _ => ?_ | refine cM ?_ | refine cF ?_ ?_) | exact cD0 (gF (i := 0) (by decide)) | exact cD1 gM (gF (i := 0) (by decide))) h
def T152l1 (O : Orc) (k m : Nat) (y1 : Nat) (y2 : List V) (y3 : Int) (y4 y5 y6 : List V) : Option V := bif decide (y3 < 64) then bif decide (y3 < 16) then must
 (inB (i64.wrap (4 * y3)) y1) (PI.asInt .u8 y2[(i64.wrap (4 * y3)).toNat * 1]? fun x1 => must (inB (i64.wrap (i64.wrap (4 * y3) + 1)) y1) (PI.asInt .u8
 y2[(i64.wrap (i64.wrap (4 * y3) + 1)).toNat * 1]? fun x2 => must (inB (i64.wrap (i64.wrap (4 * y3) + 2)) y1) (PI.asInt .u8 y2[(i64.wrap (i64.wrap (4 *
 y3) + 2)).toNat * 1]? fun x3 => must (inB (i64.wrap (i64.wrap (4 * y3) + 3)) y1) (PI.asInt .u8 y2[(i64.wrap (i64.wrap (4 * y3) + 3)).toNat * 1]? fun x4 => must (inB y3
 64) (must ((int .u32 (PI.bits u32 (fun x1 x2 => x1 ||| x2) (PI.bits u32 (fun x1 x2 => x1 ||| x2) (PI.bits u32 (fun x1 x2 => x1 ||| x2) (u32.wrap (u32.wrap x1
 * 16777216)) (u32.wrap (u32.wrap x2 * 65536))) (u32.wrap (u32.wrap x3 * 256))) (u32.wrap x4))).solid && true && (0 + y3.toNat * 1 + 1).ble y6.length && flatB C
 168 [int .u32 (PI.bits u32 (fun x1 x2 => x1 ||| x2) (PI.bits u32 (fun x1 x2 => x1 ||| x2) (PI.bits u32 (fun x1 x2 => x1 ||| x2) (u32.wrap (u32.wrap x1 *
 16777216)) (u32.wrap (u32.wrap x2 * 65536))) (u32.wrap (u32.wrap x3 * 256))) (u32.wrap x4))]) (O.L 0 152 0 [true, true, false, true] [] m [(1, sl y1 y2), (2,
 ptr 0 0), (4, ptr 1 0), (5, ptr 2 0), (16, int .i64 (i64.wrap (y3 + 1)))] [Ob.box 160 y4 false, Ob.box 160 y5 false, Ob.box 168 (splice y6 (0 + y3.toNat * 1) [int .u32 (PI.bits
 u32 (fun x1 x2 => x1 ||| x2) (PI.bits u32 (fun x1 x2 => x1 ||| x2) (PI.bits u32 (fun x1 x2 => x1 ||| x2) (u32.wrap (u32.wrap x1 * 16777216)) (u32.wrap
 (u32.wrap x2 * 65536))) (u32.wrap (u32.wrap x3 * 256))) (u32.wrap x4))]) false])))))) else must (inB (i64.wrap (y3 - 15)) 64) (PI.asInt .u32 y6[0 +
 (i64.wrap (y3 - 15)).toNat * 1]? fun x5 => must (inB (i64.wrap (y3 - 2)) 64) (PI.asInt .u32 y6[0 + (i64.wrap (y3 - 2)).toNat * 1]? fun x6 => need (O.R 0 159 [int .u32 x5,
 int .i64 (-7)]) fun x7 => asTup (some x7) fun x8 => PI.asInt .u32 x8[0]? fun x9 => need (O.R 0 159 [int .u32 x5, int .i64 (-18)]) fun x10 => asTup (some x10) fun x11 => PI.asInt .u32 x11[0]? fun
 x12 => need (O.R 0 159 [int .u32 x6, int .i64 (-17)]) fun x13 => asTup (some x13) fun x14 => PI.asInt .u32 x14[0]? fun x15 => need (O.R 0 159 [int .u32 x6, int .i64 (-19)]) fun x16 => asTup
 (some x16) fun x17 => PI.asInt .u32 x17[0]? fun x18 => must (inB (i64.wrap (y3 - 7)) 64) (PI.asInt .u32 y6[0 + (i64.wrap (y3 - 7)).toNat * 1]? fun x19 => must (inB (i64.wrap
 (y3 - 16)) 64) (PI.asInt .u32 y6[0 + (i64.wrap (y3 - 16)).toNat * 1]? fun x20 => must (inB y3 64) (must ((int .u32 (u32.wrap (u32.wrap (u32.wrap (PI.bits u32
 (fun x1 x2 => x1 ^^^ x2) (PI.bits u32 (fun x1 x2 => x1 ^^^ x2) x15 x18) (x6.fdiv 1024) + x19) + PI.bits u32 (fun x1 x2 => x1 ^^^ x2) (PI.bits u32 (fun x1 x2 => x1 ^^^ x2) x9
 x12) (x5.fdiv 8)) + x20))).solid && true && (0 + y3.toNat * 1 + 1).ble y6.length && flatB C 168 [int .u32 (u32.wrap (u32.wrap (u32.wrap (PI.bits u32 (fun x1 x2 => x1
 ^^^ x2) (PI.bits u32 (fun x1 x2 => x1 ^^^ x2) x15 x18) (x6.fdiv 1024) + x19) + PI.bits u32 (fun x1 x2 => x1 ^^^ x2) (PI.bits u32 (fun x1 x2 => x1 ^^^ x2) x9 x12) (x5.fdiv 8)) +
 x20))]) (O.L 0 152 0 [true, true, false, true] [] m [(1, sl y1 y2), (2, ptr 0 0), (4, ptr 1 0), (5, ptr 2 0), (16, int .i64 (i64.wrap (y3 + 1)))] [Ob.box 160 y4 false, Ob.box 160 y5
 false, Ob.box 168 (splice y6 (0 + y3.toNat * 1) [int .u32 (u32.wrap (u32.wrap (u32.wrap (PI.bits u32 (fun x1 x2 => x1 ^^^ x2) (PI.bits u32 (fun x1 x2 => x1
 ^^^ x2) x15 x18) (x6.fdiv 1024) + x19) + PI.bits u32 (fun x1 x2 => x1 ^^^ x2) (PI.bits u32 (fun x1 x2 => x1 ^^^ x2) x9 x12) (x5.fdiv 8)) + x20))]) false])))))) else PI.asInt .u32
 y4[0]? fun x21 => PI.asInt .u32 y4[1]? fun x22 => PI.asInt .u32 y4[2]? fun x23 => PI.asInt .u32 y4[3]? fun x24 => PI.asInt .u32 y4[4]? fun x25 => PI.asInt .u32 y4[5]? fun x26 => PI.asInt .u32 y4[6]?
 fun x27 => PI.asInt .u32 y4[7]? fun x28 => need (O.R 0 160 []) fun x29 => PI.asAgg (some x29) fun x30 => O.L 0 152 2 [true, true, true, true, false, true] [] k [(2, ptr 0 0), (4, ptr 1 0), (5,
 ptr 2 0), (11, ptr 3 0), (97, agg (renV.renL [] x30)), (98, int .i64 0)] [Ob.box 160 y4 false, Ob.box 160 y5 false, Ob.box 168 y6 false, Ob.box 160 [int .u32 x21, int .u32 x22, int .u32
 x23, int .u32 x24, int .u32 x25, int .u32 x26, int .u32 x27, int .u32 x28] false]
theorem E152l1 (y1 y2 y3 y4 y5 y6) {r : V} (h : T152l1 (orcE C) 0 0 y1 y2 y3 y4 y5 y6 = some r) : loopE C 152 0 [true, true, false, true]
 [] [(1, sl y1 y2), (2, ptr 0 0), (4, ptr 1 0), (5, ptr 2 0), (16, int .i64 y3)] [Ob.box 160 y4 false, Ob.box 160 y5 false, Ob.box 168 y6 false] = some r := ofL (j := 0) (F := fun s => T152l1 (orc C s.k) s.k s.m y1 y2 y3 y4 y5 y6) (fs0 fun _ _ => by kernel_rfl) (by
  unfold T152l1
  repeat' first | (with_reducible first | exact cC | refine cN cR fun _ => ?_ | refine cT fun _ => ?_ | refine cI fun _ => ?_ | refine cM ?_ | refine cF ?_ ?_ | refine cA fun _ => ?_ | refine cN cC fun _ => ?_ | exact cR) | exact cD0 gK | exact cD0 gM) h
def T156 (O : Orc) (y1 : Int) : Option V := some (tup [int .i64 (i64.wrap (4294967295 - y1))])
theorem E156 (y1) {r : V} (h : T156 (orcE C) y1 = some r) : runE C 156 [int .i64 y1] = some r := ofR (j := 1) (F := fun s => T156 (orc C s.k) y1) (fun _ => by kernel_rfl) (by
  unfold T156
  exact cC) h
def T159 (O : Orc) (y1 y2 : Int) : Option V := must (decide (0 ≤ u64.wrap (32 - PI.bits u64 (fun x1 x2 => x1 &&& x2) (u64.wrap y2) 31)))
 (some (tup [int .u32 (PI.bits u32 (fun x1 x2 => x1 ||| x2) (u32.wrap (y1 * 2 ^ min (PI.bits u64 (fun x1 x2 => x1 &&& x2) (u64.wrap y2) 31).toNat 32)) (y1.fdiv (2 ^
 min (u64.wrap (32 - PI.bits u64 (fun x1 x2 => x1 &&& x2) (u64.wrap y2) 31)).toNat 32)))]))
theorem E159 (y1 y2) {r : V} (h : T159 (orcE C) y1 y2 = some r) : runE C 159 [int .u32 y1, int .i64 y2] = some r := ofR (j := 1) (F := fun s => T159 (orc C s.k) y1
 y2) (fun _ => by kernel_rfl) (by
  unfold T159
  repeat' first | (with_reducible first | exact cC | refine cM ?_)) h
def T160 (O : Orc)  : Option V := some (agg [int .u32 1116352408, int .u32 1899447441, int .u32 3049323471, int .u32 3921009573, int .u32 961987163, int
 .u32 1508970993, int .u32 2453635748, int .u32 2870763221, int .u32 3624381080, int .u32 310598401, int .u32 607225278, int .u32 1426881987, int .u32 1925078388, int .u32 2162078206,
 int .u32 2614888103, int .u32 3248222580, int .u32 3835390401, int .u32 4022224774, int .u32 264347078, int .u32 604807628, int .u32 770255983, int .u32 1249150122, int .u32
 1555081692, int .u32 1996064986, int .u32 2554220882, int .u32 2821834349, int .u32 2952996808, int .u32 3210313671, int .u32 3336571891, int .u32 3584528711, int .u32 113926993, int
 .u32 338241895, int .u32 666307205, int .u32 773529912, int .u32 1294757372, int .u32 1396182291, int .u32 1695183700, int .u32 1986661051, int .u32 2177026350, int .u32 2456956037,
 int .u32 2730485921, int .u32 2820302411, int .u32 3259730800, int .u32 3345764771, int .u32 3516065817, int .u32 3600352804, int .u32 4094571909, int .u32 275423344, int .u32
 430227734, int .u32 506948616, int .u32 659060556, int .u32 883997877, int .u32 958139571, int .u32 1322822218, int .u32 1537002063, int .u32 1747873779, int .u32 1955562222, int
 .u32 2024104815, int .u32 2227730452, int .u32 2361852424, int .u32 2428436474, int .u32 2756734187, int .u32 3204031479, int .u32 3329325298])
theorem E160  {r : V} (h : T160 (orcE C)  = some r) : runE C 160 [] = some r := ofR (j := 1) (F := fun s => T160 (orc C s.k) ) (fun _ => by kernel_rfl) (by
  unfold T160
  exact cC) h
def T152l2 (O : Orc) (k m : Nat) (y1 : List V) (y2 : Int) (y3 y4 y5 y6 : List V) : Option V := bif decide (y2 < 64) then must (inB y2 64) (PI.asInt
 .u32 y1[y2.toNat * 1]? fun x1 => PI.asInt .u32 y6[0]? fun x2 => PI.asInt .u32 y6[1]? fun x3 => PI.asInt .u32 y6[2]? fun x4 => PI.asInt .u32 y6[3]? fun x5 => PI.asInt .u32 y6[4]? fun x6 => PI.asInt
 .u32 y6[5]? fun x7 => PI.asInt .u32 y6[6]? fun x8 => PI.asInt .u32 y6[7]? fun x9 => must (inB y2 64) (PI.asInt .u32 y5[0 + y2.toNat * 1]? fun x10 => need (O.R 0 161 [agg [int .u32 x2, int .u32
 x3, int .u32 x4, int .u32 x5, int .u32 x6, int .u32 x7, int .u32 x8, int .u32 x9], int .u32 x10, int .u32 x1]) fun x11 => asTup (some x11) fun x12 => PI.asInt .u32 x12[0]? fun x13 =>
 PI.asInt .u32 x12[1]? fun x14 => PI.asInt .u32 x12[2]? fun x15 => PI.asInt .u32 x12[3]? fun x16 => PI.asInt .u32 x12[4]? fun x17 => PI.asInt .u32 x12[5]? fun x18 => PI.asInt .u32 x12[6]? fun x19 =>
 PI.asInt .u32 x12[7]? fun x20 => must ([int .u32 x13, int .u32 x14, int .u32 x15, int .u32 x16, int .u32 x17, int .u32 x18, int .u32 x19, int .u32 x20].length.beq 8 && true && (0 +
 [int .u32 x13, int .u32 x14, int .u32 x15, int .u32 x16, int .u32 x17, int .u32 x18, int .u32 x19, int .u32 x20].length).ble y6.length && flatB C 160 [int .u32 x13, int .u32 x14,
 int .u32 x15, int .u32 x16, int .u32 x17, int .u32 x18, int .u32 x19, int .u32 x20]) (O.L 0 152 2 [true, true, true, true, false, true] [] m [(2, ptr 0 0), (4, ptr 1 0), (5, ptr 2
 0), (11, ptr 3 0), (97, agg (renV.renL [] y1)), (98, int .i64 (i64.wrap (y2 + 1)))] [Ob.box 160 y3 false, Ob.box 160 y4 false, Ob.box 168 y5 false, Ob.box 160 (splice y6 0 [int .u32
 x13, int .u32 x14, int .u32 x15, int .u32 x16, int .u32 x17, int .u32 x18, int .u32 x19, int .u32 x20]) false]))) else O.L 0 152 4 [true, true, true, true, true, false, true] [] k [(2,
 ptr 0 0), (4, ptr 1 0), (11, ptr 2 0), (109, int .i64 0)] [Ob.box 160 y3 false, Ob.box 160 y4 false, Ob.box 160 y6 false]
theorem E152l2 (y1 y2 y3 y4 y5 y6) {r : V} (h : T152l2 (orcE C) 0 0 y1 y2 y3 y4 y5 y6 = some r) : loopE C 152 2 [true, true, true, true,
 false, true] [] [(2, ptr 0 0), (4, ptr 1 0), (5, ptr 2 0), (11, ptr 3 0), (97, agg y1), (98, int .i64 y2)] [Ob.box 160 y3 false, Ob.box 160 y4 false, Ob.box 168 y5 false, Ob.box 160 y6
 false] = some r := ofL (j := 0) (F := fun s => T152l2 (orc C s.k) s.k s.m y1 y2 y3 y4 y5 y6) (fs0 fun _ _ => by kernel_rfl) (by
  unfold T152l2
  repeat' first | (with_reducible first | exact cC | refine cN cR fun _ => ?_ | refine cT fun _ => ?_ | refine cI fun _ => ?_ | refine cM ?_ | refine cF ?_ ?_ | refine cN cC fun _ => ?_ | exact cR) | exact cD0 gK | exact cD0 gM) h
def T161 (O : Orc) (y1 y2 y3 y4 y5 y6 y7 y8 y9 y10 : Int) : Option V := need (O.R 0 162 [int
 .u32 y5, int .i64 6]) fun x1 => asTup (some x1) fun x2 => PI.asInt .u32 x2[0]? fun x3 => need (O.R 0 162 [int .u32 y5, int .i64 11]) fun x4 => asTup (some x4) fun x5 => PI.asInt .u32 x5[0]? fun
 x6 => need (O.R 0 162 [int .u32 y5, int .i64 25]) fun x7 => asTup (some x7) fun x8 => PI.asInt .u32 x8[0]? fun x9 => need (O.R 0 162 [int .u32 y1, int .i64 2]) fun x10 => asTup (some x10) fun
 x11 => PI.asInt .u32 x11[0]? fun x12 => need (O.R 0 162 [int .u32 y1, int .i64 13]) fun x13 => asTup (some x13) fun x14 => PI.asInt .u32 x14[0]? fun x15 => need (O.R 0 162 [int .u32 y1, int
 .i64 22]) fun x16 => asTup (some x16) fun x17 => PI.asInt .u32 x17[0]? fun x18 => some (tup [int .u32 (u32.wrap (u32.wrap (u32.wrap (u32.wrap (u32.wrap (y8
 + PI.bits u32 (fun x1 x2 => x1 ^^^ x2) (PI.bits u32 (fun x1 x2 => x1 ^^^ x2) x3 x6) x9) + PI.bits u32 (fun x1 x2 => x1 ^^^ x2) (PI.bits u32 (fun x1 x2 => x1 &&& x2) y5
 y6) (PI.bits u32 (fun x1 x2 => x1 &&& x2) (PI.bits u32 (fun x1 x2 => x1 ^^^ x2) 4294967295 y5) y7)) + y10) + y9) + u32.wrap (PI.bits u32 (fun x1 x2 => x1 ^^^ x2)
 (PI.bits u32 (fun x1 x2 => x1 ^^^ x2) x12 x15) x18 + PI.bits u32 (fun x1 x2 => x1 ^^^ x2) (PI.bits u32 (fun x1 x2 => x1 ^^^ x2) (PI.bits u32 (fun x1 x2 => x1 &&& x2) y1
 y2) (PI.bits u32 (fun x1 x2 => x1 &&& x2) y1 y3)) (PI.bits u32 (fun x1 x2 => x1 &&& x2) y2 y3)))), int .u32 y1, int .u32 y2, int .u32 y3, int .u32 (u32.wrap (y4 +
 u32.wrap (u32.wrap (u32.wrap (u32.wrap (y8 + PI.bits u32 (fun x1 x2 => x1 ^^^ x2) (PI.bits u32 (fun x1 x2 => x1 ^^^ x2) x3 x6) x9) + PI.bits u32
 (fun x1 x2 => x1 ^^^ x2) (PI.bits u32 (fun x1 x2 => x1 &&& x2) y5 y6) (PI.bits u32 (fun x1 x2 => x1 &&& x2) (PI.bits u32 (fun x1 x2 => x1 ^^^ x2) 4294967295 y5) y7)) + y10) +
 y9))), int .u32 y5, int .u32 y6, int .u32 y7])
theorem E161 (y1 y2 y3 y4 y5 y6 y7 y8 y9 y10) {r : V} (h : T161 (orcE C) y1 y2 y3 y4 y5 y6 y7 y8 y9 y10 = some r) :
 runE C 161 [agg [int .u32 y1, int .u32 y2, int .u32 y3, int .u32 y4, int .u32 y5, int .u32 y6, int .u32 y7, int .u32 y8], int .u32 y9, int .u32 y10] = some r := ofR (j := 1) (F
 := fun s => T161 (orc C s.k) y1 y2 y3 y4 y5 y6 y7 y8 y9 y10) (fun _ => by kernel_rfl) (by
  unfold T161
  repeat' first | (with_reducible first | exact cC | refine cN cR fun _ => ?_ | refine cT fun _ => ?_ | refine cI fun _ => ?_ | refine cN cC fun _ => ?_ | exact cR)) h
def T152l3 (O : Orc) (m : Nat) (y1 : Int) (y2 y3 y4 : List V) : Option V := bif decide (y1 < 8) then must (inB y1 8) (PI.asInt .u32 y4[0 + y1.toNat * 1]? fun
 x1 => must (inB y1 8) (PI.asInt .u32 y2[0 + y1.toNat * 1]? fun x2 => must (inB y1 8) (must ((int .u32 (u32.wrap (x1 + x2))).solid && true && (0 + y1.toNat * 1 + 1).ble y4.length && flatB C
 160 [int .u32 (u32.wrap (x1 + x2))]) (O.L 0 152 4 [true, true, true, true, true, false, true] [] m [(2, ptr 0 0), (4, ptr 1 0), (11, ptr 2 0), (109, int .i64 (i64.wrap (y1 +
 1)))] [Ob.box 160 y2 false, Ob.box 160 y3 false, Ob.box 160 (splice y4 (0 + y1.toNat * 1) [int .u32 (u32.wrap (x1 + x2))]) false])))) else PI.asInt .u32 y4[0]? fun x3 => PI.asInt .u32 y4[1]?
 fun x4 => PI.asInt .u32 y4[2]? fun x5 => PI.asInt .u32 y4[3]? fun x6 => PI.asInt .u32 y4[4]? fun x7 => PI.asInt .u32 y4[5]? fun x8 => PI.asInt .u32 y4[6]? fun x9 => PI.asInt .u32 y4[7]? fun x10 =>
 must ([int .u32 x3, int .u32 x4, int .u32 x5, int .u32 x6, int .u32 x7, int .u32 x8, int .u32 x9, int .u32 x10].length.beq 8 && true && (0 + [int .u32 x3, int .u32 x4, int .u32
 x5, int .u32 x6, int .u32 x7, int .u32 x8, int .u32 x9, int .u32 x10].length).ble y3.length && flatB C 160 [int .u32 x3, int .u32 x4, int .u32 x5, int .u32 x6, int .u32 x7, int
 .u32 x8, int .u32 x9, int .u32 x10]) (some (tup [int .u32 x3, int .u32 x4, int .u32 x5, int .u32 x6, int .u32 x7, int .u32 x8, int .u32 x9, int .u32 x10]))
theorem E152l3 (y1 y2 y3 y4) {r : V} (h : T152l3 (orcE C) 0 y1 y2 y3 y4 = some r) : loopE C 152 4 [true, true, true, true, true, false, true] [] [(2, ptr
 0 0), (4, ptr 1 0), (11, ptr 2 0), (109, int .i64 y1)] [Ob.box 160 y2 false, Ob.box 160 y3 false, Ob.box 160 y4 false] = some r := ofL (j := 0) (F := fun s => T152l3 (orc C s.k) s.m y1
 y2 y3 y4) (fs0 fun _ _ => by kernel_rfl) (by
  unfold T152l3
  repeat' first | (with_reducible first | exact cC | refine cI fun _ => ?_ | refine cM ?_ | refine cF ?_ ?_) | exact cD0 gM) h
def T162 (O : Orc) (y1 y2 : Int) : Option V := need (O.R 0 159 [int .u32 y1, int .i64 (i64.wrap (0 - y2))]) fun x1 => asTup (some x1) fun x2 =>
 PI.asInt .u32 x2[0]? fun x3 => some (tup [int .u32 x3])
theorem E162 (y1 y2) {r : V} (h : T162 (orcE C) y1 y2 = some r) : runE C 162 [int .u32 y1, int .i64 y2] = some r := ofR (j := 1) (F := fun s => T162 (orc C s.k) y1
 y2) (fun _ => by kernel_rfl) (by
  unfold T162
  repeat' first | (with_reducible first | exact cC | refine cN cR fun _ => ?_ | refine cT fun _ => ?_ | refine cI fun _ => ?_ | refine cN cC fun _ => ?_ | exact cR)) h
end Go.Proofs.YtgbpimaidhhnjaaGreat.EqX
