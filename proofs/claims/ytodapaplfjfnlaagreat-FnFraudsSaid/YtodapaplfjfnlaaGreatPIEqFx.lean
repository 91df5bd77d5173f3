/-
  The functions of a table, as the interpreter tells them. Printed by a program.
-/
import Derived.Test.YtodapaplfjfnlaaGreatPITabF
import Derived.Test.YtodapaplfjfnlaaGreatPIPlain
import Derived.KernelRfl
noncomputable section
namespace Go.Proofs.YtodapaplfjfnlaaGreat.EqF
open Go Go.PI V IntKind
set_option maxRecDepth 100000
set_option maxHeartbeats 4000000
set_option linter.unusedVariables false
set_option linter.unusedSimpArgs false
noncomputable abbrev C := tabF.cfg
def T5 (O : Orc) (y1 : Nat) (y2 : List V) : Option V := need (O.R 0 8 [sl y1 y2]) fun x1 => asTup (some x1) fun x2 => PI.asBool x2[0]? fun x3 => bif x3 then some
 (tup [bool true]) else need (O.R 0 21 [sl y1 y2]) fun x4 => asTup (some x4) fun x5 => PI.asInt .i64 x5[0]? fun x6 => PI.asInt .i64 x5[1]? fun x7 => asSl x5[2]? fun x8 x9 => asSl x5[3]? fun x10
 x11 => asSl x5[4]? fun x12 x13 => asSl x5[5]? fun x14 x15 => PI.asInt .i64 x5[6]? fun x16 => PI.asBool x5[7]? fun x17 => asSl x5[8]? fun x18 x19 => PI.asInt .i64 x5[9]? fun x20 => asSl x5[10]? fun x21
 x22 => PI.asInt .i64 x5[11]? fun x23 => PI.asInt .i64 x5[12]? fun x24 => asSl x5[13]? fun x25 x26 => asSl x5[14]? fun x27 x28 => asSl x5[15]? fun x29 x30 => asSl x5[16]? fun x31 x32 => PI.asInt .i64
 x5[17]? fun x33 => PI.asInt .i64 x5[18]? fun x34 => asSl x5[19]? fun x35 x36 => asSl x5[20]? fun x37 x38 => asSl x5[21]? fun x39 x40 => asSl x5[22]? fun x41 x42 => PI.asInt .i64 x5[23]? fun x43 =>
 need (O.R 0 22 [agg [int .i64 x6, int .i64 x7, sl x8 x9, sl x10 x11, sl x12 x13, sl x14 x15, int .i64 x16, bool x17, sl x18 x19, int .i64 x20], sl x21 x22, agg [int .i64
 x23, int .i64 x24, sl x25 x26, sl x27 x28, sl x29 x30, sl x31 x32], agg [int .i64 x33, int .i64 x34, sl x35 x36, sl x37 x38, sl x39 x40, sl x41 x42], int .i64 x43]) fun x44
 => asTup (some x44) fun x45 => PI.asInt .i64 x45[0]? fun x46 => PI.asInt .i64 x45[1]? fun x47 => PI.asInt .i64 x45[2]? fun x48 => asOsl x45[3]? fun x49 x50 => asOsl x45[4]? fun x51 x52 => asOsl
 x45[5]? fun x53 x54 => asOsl x45[6]? fun x55 x56 => PI.asInt .i64 x45[7]? fun x57 => PI.asBool x45[8]? fun x58 => asOsl x45[9]? fun x59 x60 => PI.asInt .i64 x45[10]? fun x61 => bif x46 != 0 then need
 (O.R 0 23 [agg [int .i64 x6, int .i64 x7, sl x8 x9, sl x10 x11, sl x12 x13, sl x14 x15, int .i64 x16, bool x17, sl x18 x19, int .i64 x20], sl x21 x22, agg [int .i64 x23,
 int .i64 x24, sl x25 x26, sl x27 x28, sl x29 x30, sl x31 x32], agg [int .i64 x33, int .i64 x34, sl x35 x36, sl x37 x38, sl x39 x40, sl x41 x42], int .i64 x43]) fun x62 =>
 asTup (some x62) fun x63 => PI.asInt .i64 x63[0]? fun x64 => PI.asInt .i64 x63[1]? fun x65 => PI.asInt .i64 x63[2]? fun x66 => asSl x63[3]? fun x67 x68 => asSl x63[4]? fun x69 x70 => asSl x63[5]? fun
 x71 x72 => asSl x63[6]? fun x73 x74 => PI.asInt .i64 x63[7]? fun x75 => PI.asBool x63[8]? fun x76 => asSl x63[9]? fun x77 x78 => PI.asInt .i64 x63[10]? fun x79 => some (tup [bool (x64 == x46)])
 else need (O.R 0 24 [sl y1 y2, int .i64 1, int .i64 5]) fun x80 => asTup (some x80) fun x81 => PI.asInt .i64 x81[0]? fun x82 => need (O.R 0 25 [agg [int .i64 x47, int .i64 x48, sl x49
 x50, sl x51 x52, sl x53 x54, sl x55 (bareL x56), int .i64 x57, bool x58, sl x59 (bareL x60), int .i64 x61], agg [int .i64 (i64.wrap (i64.wrap (x47 + 1) + x82)), int
 .i64 x48, sl x49 x50, sl x51 x52, sl x53 x54], sl x55 (bareL x56)]) fun x83 => asTup (some x83) fun x84 => PI.asInt .i64 x84[0]? fun x85 => PI.asInt .i64 x84[1]? fun x86 => PI.asInt .i64
 x84[2]? fun x87 => asOsl x84[3]? fun x88 x89 => asOsl x84[4]? fun x90 x91 => asOsl x84[5]? fun x92 x93 => asOsl x84[6]? fun x94 x95 => PI.asInt .i64 x84[7]? fun x96 => PI.asBool x84[8]? fun x97 =>
 asOsl x84[9]? fun x98 x99 => PI.asInt .i64 x84[10]? fun x100 => bif x58 then need (O.R 0 26 [agg [int .i64 x47, int .i64 x48, sl x49 x50, sl x51 x52, sl x53 x54, sl x55 (bareL x56),
 int .i64 x57, bool x58, sl x59 (bareL x60), int .i64 x61], agg [int .i64 x23, int .i64 x24, sl x25 x26, sl x27 x28, sl x29 x30, sl x31 x32], sl x21 x22, int .i64 x43]) fun
 x101 => asTup (some x101) fun x102 => PI.asInt .i64 x102[0]? fun x103 => PI.asInt .i64 x102[1]? fun x104 => PI.asInt .i64 x102[2]? fun x105 => asOsl x102[3]? fun x106 x107 => asOsl x102[4]? fun x108
 x109 => asOsl x102[5]? fun x110 x111 => asOsl x102[6]? fun x112 x113 => PI.asInt .i64 x102[7]? fun x114 => PI.asBool x102[8]? fun x115 => asOsl x102[9]? fun x116 x117 => PI.asInt .i64 x102[10]? fun
 x118 => bif x103 == 9 then need (O.R 0 27 [agg [int .i64 x47, int .i64 x48, sl x49 x50, sl x51 x52, sl x53 x54, sl x55 (bareL x56), int .i64 x57, bool x58, sl x59 (bareL x60),
 int .i64 x61], int .i64 x47, sl 0 [], agg [int .i64 0, int .i64 0, sl 0 []]]) fun x119 => asTup (some x119) fun x120 => PI.asInt .i64 x120[0]? fun x121 => bif x121 == 9 then need (O.R 0
 25 [agg [int .i64 x47, int .i64 x48, sl x49 x50, sl x51 x52, sl x53 x54, sl x55 (bareL x56), int .i64 x57, bool x58, sl x59 (bareL x60), int .i64 x61], agg [int .i64 x47,
 int .i64 x48, sl x49 x50, sl x51 x52, sl x53 x54], sl x55 (bareL x56)]) fun x122 => asTup (some x122) fun x123 => PI.asInt .i64 x123[0]? fun x124 => PI.asInt .i64 x123[1]? fun x125 =>
 PI.asInt .i64 x123[2]? fun x126 => asOsl x123[3]? fun x127 x128 => asOsl x123[4]? fun x129 x130 => asOsl x123[5]? fun x131 x132 => asOsl x123[6]? fun x133 x134 => PI.asInt .i64 x123[7]? fun x135 =>
 PI.asBool x123[8]? fun x136 => asOsl x123[9]? fun x137 x138 => PI.asInt .i64 x123[10]? fun x139 => bif x124 == 3 then bif x85 == 0 then some (tup [bool !x97]) else some (tup [bool false]) else
 some (tup [bool false]) else some (tup [bool false]) else some (tup [bool false]) else some (tup [bool false])
theorem E5 (y1 y2) {r : V} (h : T5 (orcE C) y1 y2 = some r) : runE C 5 [sl y1 y2] = some r := ofR (j := 1) (F := fun s => T5 (orc C s.k) y1 y2) (fun _ => by
 kernel_rfl) (by
  unfold T5
  repeat' first | (with_reducible first | intro _ | exact cC | apply cN cR | apply cT | apply cI | apply cF | apply cB | apply cL | apply cO | apply cN cC | exact cR)) h
def T8 (O : Orc) (y1 : Nat) (y2 : List V) : Option V := some (tup [bool (decide ((↑y1 : Int) > 1048576))])
theorem E8 (y1 y2) {r : V} (h : T8 (orcE C) y1 y2 = some r) : runE C 8 [sl y1 y2] = some r := ofR (j := 1) (F := fun s => T8 (orc C s.k) y1 y2) (fun _ => by
 kernel_rfl) (by
  unfold T8
  exact cC) h
def T21 (O : Orc) (y1 : Nat) (y2 : List V) : Option V := need (O.W 7 66 [] [ptr 0 0] [Ob.box 142 [sl y1 y2, int .i64 0] false]) fun x1 => asTup (some x1) fun x2 =>
 PI.asInt .i64 x2[0]? fun x3 => PI.asInt .i64 x2[1]? fun x4 => asSl x2[2]? fun x5 x6 => asSl x2[3]? fun x7 x8 => asSl x2[4]? fun x9 x10 => asSl x2[5]? fun x11 x12 => PI.asInt .i64 x2[6]? fun x13 =>
 PI.asBool x2[7]? fun x14 => asSl x2[8]? fun x15 x16 => PI.asInt .i64 x2[9]? fun x17 => asSl x2[10]? fun x18 x19 => asSl x2[11]? fun x20 x21 => asSl x2[12]? fun x22 x23 => PI.asInt .i64 x2[13]? fun x24
 => need (O.W 7 40 [] [ptr 0 0, int .i64 5] [Ob.box 142 [sl x22 x23, int .i64 x24] false]) fun x25 => asTup (some x25) fun x26 => PI.asBool x26[0]? fun x27 => asSl x26[1]? fun x28 x29 =>
 PI.asInt .i64 x26[2]? fun x30 => bif x27 then need (O.W 7 41 [] [ptr 0 0, int .i64 3] [Ob.box 142 [sl x28 x29, int .i64 x30] false]) fun x31 => asTup (some x31) fun x32 => PI.asInt .i64
 x32[0]? fun x33 => asSl x32[1]? fun x34 x35 => PI.asInt .i64 x32[2]? fun x36 => need (O.W 7 41 [] [ptr 0 0, int .i64 2] [Ob.box 142 [sl x34 x35, int .i64 x36] false]) fun x37 => asTup (some
 x37) fun x38 => PI.asInt .i64 x38[0]? fun x39 => asSl x38[1]? fun x40 x41 => PI.asInt .i64 x38[2]? fun x42 => need (O.W 7 67 [] [ptr 0 0, int .i64 (i64.wrap (1 + x33)), int .i64 x39]
 [Ob.box 142 [sl x40 x41, int .i64 x42] false]) fun x43 => asTup (some x43) fun x44 => asSl x44[0]? fun x45 x46 => asSl x44[1]? fun x47 x48 => asSl x44[2]? fun x49 x50 => PI.asInt .i64 x44[3]? fun
 x51 => need (O.W 7 41 [] [ptr 0 0, int .i64 6] [Ob.box 142 [sl x49 x50, int .i64 x51] false]) fun x52 => asTup (some x52) fun x53 => PI.asInt .i64 x53[0]? fun x54 => asSl x53[1]? fun x55 x56
 => PI.asInt .i64 x53[2]? fun x57 => need (O.W 7 41 [] [ptr 0 0, int .i64 30] [Ob.box 142 [sl x55 x56, int .i64 x57] false]) fun x58 => asTup (some x58) fun x59 => PI.asInt .i64 x59[0]? fun x60
 => asSl x59[1]? fun x61 x62 => PI.asInt .i64 x59[2]? fun x63 => need (O.R 7 68 [sl 0 []]) fun x64 => asTup (some x64) fun x65 => asOsl x65[0]? fun x66 x67 => need (O.R 7 69 [sl x47 x48]) fun x68
 => asTup (some x68) fun x69 => asSl x69[0]? fun x70 x71 => need (O.W 7 70 [] [ptr 0 0, int .i64 32] [Ob.box 142 [sl x61 x62, int .i64 x63] false]) fun x72 => asTup (some x72) fun x73 => asSl
 x73[0]? fun x74 x75 => asSl x73[1]? fun x76 x77 => PI.asInt .i64 x73[2]? fun x78 => need (O.W 7 72 [] [ptr 0 0, int .i64 (↑x45 : Int)] [Ob.box 142 [sl x76 x77, int .i64 x78] false]) fun x79 =>
 asTup (some x79) fun x80 => asSl x80[0]? fun x81 x82 => asSl x80[1]? fun x83 x84 => PI.asInt .i64 x80[2]? fun x85 => need (O.R 7 71 [sl x45 x46, sl x81 x82, int .i64 0, agg [int .i64
 (i64.wrap (1 + x54)), int .i64 x60, sl x66 x67, sl x70 x71, sl x74 x75]]) fun x86 => asTup (some x86) fun x87 => PI.asInt .i64 x87[0]? fun x88 => PI.asInt .i64 x87[1]? fun x89 => asSl
 x87[2]? fun x90 x91 => asSl x87[3]? fun x92 x93 => asSl x87[4]? fun x94 x95 => asSl x87[5]? fun x96 x97 => need (O.W 7 40 [] [ptr 0 0, int .i64 8] [Ob.box 142 [sl x83 x84, int .i64 x85]
 false]) fun x98 => asTup (some x98) fun x99 => PI.asBool x99[0]? fun x100 => asSl x99[1]? fun x101 x102 => PI.asInt .i64 x99[2]? fun x103 => bif !x100 then need (O.W 7 40 [] [ptr 0 0, int .i64 10]
 [Ob.box 142 [sl x101 x102, int .i64 x103] false]) fun x104 => asTup (some x104) fun x105 => PI.asBool x105[0]? fun x106 => asSl x105[1]? fun x107 x108 => PI.asInt .i64 x105[2]? fun x109 => bif
 x106 then need (O.W 7 72 [] [ptr 0 0, int .i64 (↑x45 : Int)] [Ob.box 142 [sl x107 x108, int .i64 x109] false]) fun x110 => asTup (some x110) fun x111 => asSl x111[0]? fun x112 x113 => asSl
 x111[1]? fun x114 x115 => PI.asInt .i64 x111[2]? fun x116 => need (O.W 7 41 [] [ptr 0 0, int .i64 4] [Ob.box 142 [sl x114 x115, int .i64 x116] false]) fun x117 => asTup (some x117) fun x118 =>
 PI.asInt .i64 x118[0]? fun x119 => asSl x118[1]? fun x120 x121 => PI.asInt .i64 x118[2]? fun x122 => need (O.R 7 71 [sl x45 x46, sl x112 x113, int .i64 x119, agg [int .i64 (i64.wrap
 (i64.wrap (1 + x54) + 1)), int .i64 (i64.wrap (x60 + 1)), sl x66 x67, sl x70 x71, sl x74 x75]]) fun x123 => asTup (some x123) fun x124 => PI.asInt .i64 x124[0]? fun x125 =>
 PI.asInt .i64 x124[1]? fun x126 => asSl x124[2]? fun x127 x128 => asSl x124[3]? fun x129 x130 => asSl x124[4]? fun x131 x132 => asSl x124[5]? fun x133 x134 => need (O.W 7 73 [] [ptr 0 0, agg
 [int .i64 x3, int .i64 x4, sl x5 x6, sl x7 x8, sl x9 x10, sl x11 x12, int .i64 x13, bool x14, sl x15 x16, int .i64 x17], agg [int .i64 x88, int .i64 x89, sl x90 x91, sl
 x92 x93, sl x94 x95, sl x96 x97]] [Ob.box 142 [sl x120 x121, int .i64 x122] false]) fun x135 => asTup (some x135) fun x136 => PI.asInt .i64 x136[0]? fun x137 => asSl x136[1]? fun x138 x139 =>
 PI.asInt .i64 x136[2]? fun x140 => some (tup [int .i64 x3, int .i64 x4, sl x5 x6, sl x7 x8, sl x9 x10, sl x11 x12, int .i64 x13, bool x14, sl x15 x16, int .i64 x17, sl x47 x48,
 int .i64 x88, int .i64 x89, sl x90 x91, sl x92 x93, sl x94 x95, sl x96 x97, int .i64 x125, int .i64 x126, sl x127 x128, sl x129 x130, sl x131 x132, sl x133 x134, int .i64
 x137]) else need (O.W 7 72 [] [ptr 0 0, int .i64 (↑x45 : Int)] [Ob.box 142 [sl x107 x108, int .i64 x109] false]) fun x141 => asTup (some x141) fun x142 => asSl x142[0]? fun x143 x144 => asSl
 x142[1]? fun x145 x146 => PI.asInt .i64 x142[2]? fun x147 => need (O.W 7 41 [] [ptr 0 0, int .i64 4] [Ob.box 142 [sl x145 x146, int .i64 x147] false]) fun x148 => asTup (some x148) fun x149 =>
 PI.asInt .i64 x149[0]? fun x150 => asSl x149[1]? fun x151 x152 => PI.asInt .i64 x149[2]? fun x153 => need (O.R 7 71 [sl x45 x46, sl x143 x144, int .i64 x150, agg [int .i64 (i64.wrap
 (1 + x54)), int .i64 (i64.wrap (x60 + 1)), sl x66 x67, sl x70 x71, sl x74 x75]]) fun x154 => asTup (some x154) fun x155 => PI.asInt .i64 x155[0]? fun x156 => PI.asInt .i64 x155[1]? fun
 x157 => asSl x155[2]? fun x158 x159 => asSl x155[3]? fun x160 x161 => asSl x155[4]? fun x162 x163 => asSl x155[5]? fun x164 x165 => need (O.W 7 73 [] [ptr 0 0, agg [int .i64 x3, int .i64 x4,
 sl x5 x6, sl x7 x8, sl x9 x10, sl x11 x12, int .i64 x13, bool x14, sl x15 x16, int .i64 x17], agg [int .i64 x88, int .i64 x89, sl x90 x91, sl x92 x93, sl x94 x95, sl x96
 x97]] [Ob.box 142 [sl x151 x152, int .i64 x153] false]) fun x166 => asTup (some x166) fun x167 => PI.asInt .i64 x167[0]? fun x168 => asSl x167[1]? fun x169 x170 => PI.asInt .i64 x167[2]? fun x171
 => some (tup [int .i64 x3, int .i64 x4, sl x5 x6, sl x7 x8, sl x9 x10, sl x11 x12, int .i64 x13, bool x14, sl x15 x16, int .i64 x17, sl x47 x48, int .i64 x88, int .i64 x89,
 sl x90 x91, sl x92 x93, sl x94 x95, sl x96 x97, int .i64 x156, int .i64 x157, sl x158 x159, sl x160 x161, sl x162 x163, sl x164 x165, int .i64 x168]) else need (O.W 7 40 []
 [ptr 0 0, int .i64 10] [Ob.box 142 [sl x101 x102, int .i64 x103] false]) fun x172 => asTup (some x172) fun x173 => PI.asBool x173[0]? fun x174 => asSl x173[1]? fun x175 x176 => PI.asInt .i64
 x173[2]? fun x177 => bif x174 then need (O.W 7 72 [] [ptr 0 0, int .i64 (↑x45 : Int)] [Ob.box 142 [sl x175 x176, int .i64 x177] false]) fun x178 => asTup (some x178) fun x179 => asSl x179[0]?
 fun x180 x181 => asSl x179[1]? fun x182 x183 => PI.asInt .i64 x179[2]? fun x184 => need (O.W 7 41 [] [ptr 0 0, int .i64 4] [Ob.box 142 [sl x182 x183, int .i64 x184] false]) fun x185 => asTup
 (some x185) fun x186 => PI.asInt .i64 x186[0]? fun x187 => asSl x186[1]? fun x188 x189 => PI.asInt .i64 x186[2]? fun x190 => need (O.R 7 71 [sl x45 x46, sl x180 x181, int .i64 x187, agg [int
 .i64 (i64.wrap (i64.wrap (1 + x54) + 1)), int .i64 x60, sl x66 x67, sl x70 x71, sl x74 x75]]) fun x191 => asTup (some x191) fun x192 => PI.asInt .i64 x192[0]? fun x193 =>
 PI.asInt .i64 x192[1]? fun x194 => asSl x192[2]? fun x195 x196 => asSl x192[3]? fun x197 x198 => asSl x192[4]? fun x199 x200 => asSl x192[5]? fun x201 x202 => need (O.W 7 73 [] [ptr 0 0, agg
 [int .i64 x3, int .i64 x4, sl x5 x6, sl x7 x8, sl x9 x10, sl x11 x12, int .i64 x13, bool x14, sl x15 x16, int .i64 x17], agg [int .i64 x88, int .i64 x89, sl x90 x91, sl
 x92 x93, sl x94 x95, sl x96 x97]] [Ob.box 142 [sl x188 x189, int .i64 x190] false]) fun x203 => asTup (some x203) fun x204 => PI.asInt .i64 x204[0]? fun x205 => asSl x204[1]? fun x206 x207 =>
 PI.asInt .i64 x204[2]? fun x208 => some (tup [int .i64 x3, int .i64 x4, sl x5 x6, sl x7 x8, sl x9 x10, sl x11 x12, int .i64 x13, bool x14, sl x15 x16, int .i64 x17, sl x47 x48,
 int .i64 x88, int .i64 x89, sl x90 x91, sl x92 x93, sl x94 x95, sl x96 x97, int .i64 x193, int .i64 x194, sl x195 x196, sl x197 x198, sl x199 x200, sl x201 x202, int .i64
 x205]) else need (O.W 7 72 [] [ptr 0 0, int .i64 (↑x45 : Int)] [Ob.box 142 [sl x175 x176, int .i64 x177] false]) fun x209 => asTup (some x209) fun x210 => asSl x210[0]? fun x211 x212 => asSl
 x210[1]? fun x213 x214 => PI.asInt .i64 x210[2]? fun x215 => need (O.W 7 41 [] [ptr 0 0, int .i64 4] [Ob.box 142 [sl x213 x214, int .i64 x215] false]) fun x216 => asTup (some x216) fun x217 =>
 PI.asInt .i64 x217[0]? fun x218 => asSl x217[1]? fun x219 x220 => PI.asInt .i64 x217[2]? fun x221 => need (O.R 7 71 [sl x45 x46, sl x211 x212, int .i64 x218, agg [int .i64 (i64.wrap
 (1 + x54)), int .i64 x60, sl x66 x67, sl x70 x71, sl x74 x75]]) fun x222 => asTup (some x222) fun x223 => PI.asInt .i64 x223[0]? fun x224 => PI.asInt .i64 x223[1]? fun x225 => asSl x223[2]?
 fun x226 x227 => asSl x223[3]? fun x228 x229 => asSl x223[4]? fun x230 x231 => asSl x223[5]? fun x232 x233 => need (O.W 7 73 [] [ptr 0 0, agg [int .i64 x3, int .i64 x4, sl x5 x6, sl x7 x8,
 sl x9 x10, sl x11 x12, int .i64 x13, bool x14, sl x15 x16, int .i64 x17], agg [int .i64 x88, int .i64 x89, sl x90 x91, sl x92 x93, sl x94 x95, sl x96 x97]] [Ob.box 142 [sl
 x219 x220, int .i64 x221] false]) fun x234 => asTup (some x234) fun x235 => PI.asInt .i64 x235[0]? fun x236 => asSl x235[1]? fun x237 x238 => PI.asInt .i64 x235[2]? fun x239 => some (tup [int
 .i64 x3, int .i64 x4, sl x5 x6, sl x7 x8, sl x9 x10, sl x11 x12, int .i64 x13, bool x14, sl x15 x16, int .i64 x17, sl x47 x48, int .i64 x88, int .i64 x89, sl x90 x91, sl
 x92 x93, sl x94 x95, sl x96 x97, int .i64 x224, int .i64 x225, sl x226 x227, sl x228 x229, sl x230 x231, sl x232 x233, int .i64 x236]) else need (O.W 7 41 [] [ptr 0 0, int .i64
 6] [Ob.box 142 [sl x28 x29, int .i64 x30] false]) fun x240 => asTup (some x240) fun x241 => PI.asInt .i64 x241[0]? fun x242 => asSl x241[1]? fun x243 x244 => PI.asInt .i64 x241[2]? fun x245 =>
 need (O.W 7 41 [] [ptr 0 0, int .i64 30] [Ob.box 142 [sl x243 x244, int .i64 x245] false]) fun x246 => asTup (some x246) fun x247 => PI.asInt .i64 x247[0]? fun x248 => asSl x247[1]? fun x249
 x250 => PI.asInt .i64 x247[2]? fun x251 => need (O.R 7 68 [sl 0 []]) fun x252 => asTup (some x252) fun x253 => asOsl x253[0]? fun x254 x255 => need (O.R 7 69 [sl x11 x12]) fun x256 => asTup (some
 x256) fun x257 => asSl x257[0]? fun x258 x259 => need (O.W 7 70 [] [ptr 0 0, int .i64 32] [Ob.box 142 [sl x249 x250, int .i64 x251] false]) fun x260 => asTup (some x260) fun x261 => asSl
 x261[0]? fun x262 x263 => asSl x261[1]? fun x264 x265 => PI.asInt .i64 x261[2]? fun x266 => need (O.W 7 72 [] [ptr 0 0, int .i64 (↑x18 : Int)] [Ob.box 142 [sl x264 x265, int .i64 x266] false])
 fun x267 => asTup (some x267) fun x268 => asSl x268[0]? fun x269 x270 => asSl x268[1]? fun x271 x272 => PI.asInt .i64 x268[2]? fun x273 => need (O.R 7 71 [sl x18 x19, sl x269 x270, int .i64 0,
 agg [int .i64 (i64.wrap (1 + x242)), int .i64 x248, sl x254 x255, sl x258 x259, sl x262 x263]]) fun x274 => asTup (some x274) fun x275 => PI.asInt .i64 x275[0]? fun x276 =>
 PI.asInt .i64 x275[1]? fun x277 => asSl x275[2]? fun x278 x279 => asSl x275[3]? fun x280 x281 => asSl x275[4]? fun x282 x283 => asSl x275[5]? fun x284 x285 => need (O.W 7 40 [] [ptr 0 0, int .i64
 8] [Ob.box 142 [sl x271 x272, int .i64 x273] false]) fun x286 => asTup (some x286) fun x287 => PI.asBool x287[0]? fun x288 => asSl x287[1]? fun x289 x290 => PI.asInt .i64 x287[2]? fun x291 => bif
 !x288 then need (O.W 7 40 [] [ptr 0 0, int .i64 10] [Ob.box 142 [sl x289 x290, int .i64 x291] false]) fun x292 => asTup (some x292) fun x293 => PI.asBool x293[0]? fun x294 => asSl x293[1]? fun
 x295 x296 => PI.asInt .i64 x293[2]? fun x297 => bif x294 then need (O.W 7 72 [] [ptr 0 0, int .i64 (↑x18 : Int)] [Ob.box 142 [sl x295 x296, int .i64 x297] false]) fun x298 => asTup (some x298)
 fun x299 => asSl x299[0]? fun x300 x301 => asSl x299[1]? fun x302 x303 => PI.asInt .i64 x299[2]? fun x304 => need (O.W 7 41 [] [ptr 0 0, int .i64 4] [Ob.box 142 [sl x302 x303, int .i64 x304]
 false]) fun x305 => asTup (some x305) fun x306 => PI.asInt .i64 x306[0]? fun x307 => asSl x306[1]? fun x308 x309 => PI.asInt .i64 x306[2]? fun x310 => need (O.R 7 71 [sl x18 x19, sl x300 x301,
 int .i64 x307, agg [int .i64 (i64.wrap (i64.wrap (1 + x242) + 1)), int .i64 (i64.wrap (x248 + 1)), sl x254 x255, sl x258 x259, sl x262 x263]]) fun x311 => asTup
 (some x311) fun x312 => PI.asInt .i64 x312[0]? fun x313 => PI.asInt .i64 x312[1]? fun x314 => asSl x312[2]? fun x315 x316 => asSl x312[3]? fun x317 x318 => asSl x312[4]? fun x319 x320 => asSl x312[5]?
 fun x321 x322 => need (O.W 7 73 [] [ptr 0 0, agg [int .i64 x3, int .i64 x4, sl x5 x6, sl x7 x8, sl x9 x10, sl x11 x12, int .i64 x13, bool x14, sl x15 x16, int .i64 x17], agg
 [int .i64 x276, int .i64 x277, sl x278 x279, sl x280 x281, sl x282 x283, sl x284 x285]] [Ob.box 142 [sl x308 x309, int .i64 x310] false]) fun x323 => asTup (some x323) fun x324 =>
 PI.asInt .i64 x324[0]? fun x325 => asSl x324[1]? fun x326 x327 => PI.asInt .i64 x324[2]? fun x328 => some (tup [int .i64 x3, int .i64 x4, sl x5 x6, sl x7 x8, sl x9 x10, sl x11 x12, int
 .i64 x13, bool x14, sl x15 x16, int .i64 x17, sl x11 x12, int .i64 x276, int .i64 x277, sl x278 x279, sl x280 x281, sl x282 x283, sl x284 x285, int .i64 x313, int .i64 x314,
 sl x315 x316, sl x317 x318, sl x319 x320, sl x321 x322, int .i64 x325]) else need (O.W 7 72 [] [ptr 0 0, int .i64 (↑x18 : Int)] [Ob.box 142 [sl x295 x296, int .i64 x297] false]) fun
 x329 => asTup (some x329) fun x330 => asSl x330[0]? fun x331 x332 => asSl x330[1]? fun x333 x334 => PI.asInt .i64 x330[2]? fun x335 => need (O.W 7 41 [] [ptr 0 0, int .i64 4] [Ob.box 142 [sl
 x333 x334, int .i64 x335] false]) fun x336 => asTup (some x336) fun x337 => PI.asInt .i64 x337[0]? fun x338 => asSl x337[1]? fun x339 x340 => PI.asInt .i64 x337[2]? fun x341 => need (O.R 7 71 [sl
 x18 x19, sl x331 x332, int .i64 x338, agg [int .i64 (i64.wrap (1 + x242)), int .i64 (i64.wrap (x248 + 1)), sl x254 x255, sl x258 x259, sl x262 x263]]) fun x342 => asTup
 (some x342) fun x343 => PI.asInt .i64 x343[0]? fun x344 => PI.asInt .i64 x343[1]? fun x345 => asSl x343[2]? fun x346 x347 => asSl x343[3]? fun x348 x349 => asSl x343[4]? fun x350 x351 => asSl x343[5]?
 fun x352 x353 => need (O.W 7 73 [] [ptr 0 0, agg [int .i64 x3, int .i64 x4, sl x5 x6, sl x7 x8, sl x9 x10, sl x11 x12, int .i64 x13, bool x14, sl x15 x16, int .i64 x17], agg
 [int .i64 x276, int .i64 x277, sl x278 x279, sl x280 x281, sl x282 x283, sl x284 x285]] [Ob.box 142 [sl x339 x340, int .i64 x341] false]) fun x354 => asTup (some x354) fun x355 =>
 PI.asInt .i64 x355[0]? fun x356 => asSl x355[1]? fun x357 x358 => PI.asInt .i64 x355[2]? fun x359 => some (tup [int .i64 x3, int .i64 x4, sl x5 x6, sl x7 x8, sl x9 x10, sl x11 x12, int
 .i64 x13, bool x14, sl x15 x16, int .i64 x17, sl x11 x12, int .i64 x276, int .i64 x277, sl x278 x279, sl x280 x281, sl x282 x283, sl x284 x285, int .i64 x344, int .i64 x345,
 sl x346 x347, sl x348 x349, sl x350 x351, sl x352 x353, int .i64 x356]) else need (O.W 7 40 [] [ptr 0 0, int .i64 10] [Ob.box 142 [sl x289 x290, int .i64 x291] false]) fun x360 =>
 asTup (some x360) fun x361 => PI.asBool x361[0]? fun x362 => asSl x361[1]? fun x363 x364 => PI.asInt .i64 x361[2]? fun x365 => bif x362 then need (O.W 7 72 [] [ptr 0 0, int .i64 (↑x18 : Int)]
 [Ob.box 142 [sl x363 x364, int .i64 x365] false]) fun x366 => asTup (some x366) fun x367 => asSl x367[0]? fun x368 x369 => asSl x367[1]? fun x370 x371 => PI.asInt .i64 x367[2]? fun x372 => need
 (O.W 7 41 [] [ptr 0 0, int .i64 4] [Ob.box 142 [sl x370 x371, int .i64 x372] false]) fun x373 => asTup (some x373) fun x374 => PI.asInt .i64 x374[0]? fun x375 => asSl x374[1]? fun x376 x377 =>
 PI.asInt .i64 x374[2]? fun x378 => need (O.R 7 71 [sl x18 x19, sl x368 x369, int .i64 x375, agg [int .i64 (i64.wrap (i64.wrap (1 + x242) + 1)), int .i64 x248, sl x254
 x255, sl x258 x259, sl x262 x263]]) fun x379 => asTup (some x379) fun x380 => PI.asInt .i64 x380[0]? fun x381 => PI.asInt .i64 x380[1]? fun x382 => asSl x380[2]? fun x383 x384 => asSl x380[3]? fun
 x385 x386 => asSl x380[4]? fun x387 x388 => asSl x380[5]? fun x389 x390 => need (O.W 7 73 [] [ptr 0 0, agg [int .i64 x3, int .i64 x4, sl x5 x6, sl x7 x8, sl x9 x10, sl x11 x12, int
 .i64 x13, bool x14, sl x15 x16, int .i64 x17], agg [int .i64 x276, int .i64 x277, sl x278 x279, sl x280 x281, sl x282 x283, sl x284 x285]] [Ob.box 142 [sl x376 x377, int .i64
 x378] false]) fun x391 => asTup (some x391) fun x392 => PI.asInt .i64 x392[0]? fun x393 => asSl x392[1]? fun x394 x395 => PI.asInt .i64 x392[2]? fun x396 => some (tup [int .i64 x3, int .i64 x4,
 sl x5 x6, sl x7 x8, sl x9 x10, sl x11 x12, int .i64 x13, bool x14, sl x15 x16, int .i64 x17, sl x11 x12, int .i64 x276, int .i64 x277, sl x278 x279, sl x280 x281, sl x282
 x283, sl x284 x285, int .i64 x381, int .i64 x382, sl x383 x384, sl x385 x386, sl x387 x388, sl x389 x390, int .i64 x393]) else need (O.W 7 72 [] [ptr 0 0, int .i64 (↑x18 : Int)]
 [Ob.box 142 [sl x363 x364, int .i64 x365] false]) fun x397 => asTup (some x397) fun x398 => asSl x398[0]? fun x399 x400 => asSl x398[1]? fun x401 x402 => PI.asInt .i64 x398[2]? fun x403 => need
 (O.W 7 41 [] [ptr 0 0, int .i64 4] [Ob.box 142 [sl x401 x402, int .i64 x403] false]) fun x404 => asTup (some x404) fun x405 => PI.asInt .i64 x405[0]? fun x406 => asSl x405[1]? fun x407 x408 =>
 PI.asInt .i64 x405[2]? fun x409 => need (O.R 7 71 [sl x18 x19, sl x399 x400, int .i64 x406, agg [int .i64 (i64.wrap (1 + x242)), int .i64 x248, sl x254 x255, sl x258 x259, sl
 x262 x263]]) fun x410 => asTup (some x410) fun x411 => PI.asInt .i64 x411[0]? fun x412 => PI.asInt .i64 x411[1]? fun x413 => asSl x411[2]? fun x414 x415 => asSl x411[3]? fun x416 x417 => asSl x411[4]?
 fun x418 x419 => asSl x411[5]? fun x420 x421 => need (O.W 7 73 [] [ptr 0 0, agg [int .i64 x3, int .i64 x4, sl x5 x6, sl x7 x8, sl x9 x10, sl x11 x12, int .i64 x13, bool x14, sl
 x15 x16, int .i64 x17], agg [int .i64 x276, int .i64 x277, sl x278 x279, sl x280 x281, sl x282 x283, sl x284 x285]] [Ob.box 142 [sl x407 x408, int .i64 x409] false]) fun x422 =>
 asTup (some x422) fun x423 => PI.asInt .i64 x423[0]? fun x424 => asSl x423[1]? fun x425 x426 => PI.asInt .i64 x423[2]? fun x427 => some (tup [int .i64 x3, int .i64 x4, sl x5 x6, sl x7 x8,
 sl x9 x10, sl x11 x12, int .i64 x13, bool x14, sl x15 x16, int .i64 x17, sl x11 x12, int .i64 x276, int .i64 x277, sl x278 x279, sl x280 x281, sl x282 x283, sl x284 x285,
 int .i64 x412, int .i64 x413, sl x414 x415, sl x416 x417, sl x418 x419, sl x420 x421, int .i64 x424])
theorem E21 (y1 y2) {r : V} (h : T21 (orcE C) y1 y2 = some r) : runE C 21 [sl y1 y2] = some r := ofR (j := 8) (F := fun s => T21 (orc C s.k) y1 y2) (fun _ => by
 kernel_rfl) (by
  unfold T21
  repeat' first | (with_reducible first | intro _ | exact cC | apply cN cR | apply cN cQ | apply cT | apply cI | apply cF | apply cB | apply cL | apply cO | apply cN cC | exact cR | exact cQ)) h
def T22 (O : Orc) (k : Nat) (y1 y2 : Int) (y3 : Nat) (y4 : List V) (y5 : Nat) (y6 : List V) (y7 : Nat) (y8 : List V) (y9 : Nat) (y10 : List V) (y11 : Int) (y12 : Bool) (y13 : Nat) (y14 : List V) (y15 : Int) (y16 : Nat) (y17 : List V) (y18 y19 : Int) (y20 : Nat) (y21 : List V) (y22 : Nat) (y23 : List V) (y24 : Nat) (y25 : List V) (y26 : Nat) (y27 : List V) (y28 y29 : Int) (y30 : Nat) (y31 : List V) (y32 : Nat) (y33 : List V) (y34 : Nat) (y35 : List V) (y36 : Nat) (y37 : List V) (y38 : Int) : Option V := need (O.R 0 31 [agg [int .i64 y1,
 int .i64 y2, sl y3 y4, sl y5 y6, sl y7 y8, sl y9 y10, int .i64 y11, bool y12, sl y13 y14, int .i64 y15]]) fun x1 => asTup (some x1) fun x2 => PI.asInt .i64 x2[0]? fun x3 => bif x3 ==
 0 then need (O.R 0 74 [agg [int .i64 y1, int .i64 y2, sl y3 y4, sl y5 y6, sl y7 y8, sl y9 y10, int .i64 y11, bool y12, sl y13 y14, int .i64 y15], int .i64 y38]) fun x4 => asTup
 (some x4) fun x5 => PI.asBool x5[0]? fun x6 => bif x6 then O.L 0 22 0 [true, true, true, false, true] [] k [(1, sl y16 y17), (5, ptr 0 0), (7, ptr 1 0), (8, ptr 2 0), (10, ptr 3 0), (11,
 int .i64 10), (26, ref 9), (27, int .i64 2), (28, int .i64 0)] [Ob.box 52 [int .i64 y1, int .i64 y2, sl y3 y4, sl y5 y6, sl y7 y8, sl y9 y10, int .i64 y11, bool y12, sl y13
 y14, int .i64 y15] false, Ob.box 55 [int .i64 y18, int .i64 y19, sl y20 y21, sl y22 y23, sl y24 y25, sl y26 y27] false, Ob.box 55 [int .i64 y28, int .i64 y29, sl y30 y31, sl y32
 y33, sl y34 y35, sl y36 y37] false, Ob.box 59 [int .i64 0, int .i64 0, int .i64 0, ref 4, ref 5, ref 6, ref 7, int .i64 0, bool false, ref 8, int .i64 0] false, Ob.row 5 0 []
 false, Ob.row 5 0 [] false, Ob.row 5 0 [] false, Ob.row 161 0 [] false, Ob.nrow [] 22 0 [], Ob.row 55 2 [int .i64 y18, int .i64 y19, sl y20 y21, sl y22 y23, sl y24 y25, sl y26 y27, int
 .i64 y28, int .i64 y29, sl y30 y31, sl y32 y33, sl y34 y35, sl y36 y37] false] else O.L 0 22 0 [true, true, true, false, true] [] k [(1, sl y16 y17), (5, ptr 0 0), (7, ptr 1 0), (8,
 ptr 2 0), (10, ptr 3 0), (11, int .i64 x3), (26, ref 9), (27, int .i64 2), (28, int .i64 0)] [Ob.box 52 [int .i64 y1, int .i64 y2, sl y3 y4, sl y5 y6, sl y7 y8, sl y9 y10,
 int .i64 y11, bool y12, sl y13 y14, int .i64 y15] false, Ob.box 55 [int .i64 y18, int .i64 y19, sl y20 y21, sl y22 y23, sl y24 y25, sl y26 y27] false, Ob.box 55 [int .i64 y28,
 int .i64 y29, sl y30 y31, sl y32 y33, sl y34 y35, sl y36 y37] false, Ob.box 59 [int .i64 0, int .i64 0, int .i64 0, ref 4, ref 5, ref 6, ref 7, int .i64 0, bool false,
 ref 8, int .i64 0] false, Ob.row 5 0 [] false, Ob.row 5 0 [] false, Ob.row 5 0 [] false, Ob.row 161 0 [] false, Ob.nrow [] 22 0 [], Ob.row 55 2 [int .i64 y18, int .i64 y19, sl y20 y21, sl
 y22 y23, sl y24 y25, sl y26 y27, int .i64 y28, int .i64 y29, sl y30 y31, sl y32 y33, sl y34 y35, sl y36 y37] false] else O.L 0 22 0 [true, true, true, false, true] [] k [(1, sl y16
 y17), (5, ptr 0 0), (7, ptr 1 0), (8, ptr 2 0), (10, ptr 3 0), (11, int .i64 x3), (26, ref 9), (27, int .i64 2), (28, int .i64 0)] [Ob.box 52 [int .i64 y1, int .i64 y2, sl y3 y4,
 sl y5 y6, sl y7 y8, sl y9 y10, int .i64 y11, bool y12, sl y13 y14, int .i64 y15] false, Ob.box 55 [int .i64 y18, int .i64 y19, sl y20 y21, sl y22 y23, sl y24 y25, sl y26 y27]
 false, Ob.box 55 [int .i64 y28, int .i64 y29, sl y30 y31, sl y32 y33, sl y34 y35, sl y36 y37] false, Ob.box 59 [int .i64 0, int .i64 0, int .i64 0, ref 4, ref 5, ref 6, ref
 7, int .i64 0, bool false, ref 8, int .i64 0] false, Ob.row 5 0 [] false, Ob.row 5 0 [] false, Ob.row 5 0 [] false, Ob.row 161 0 [] false, Ob.nrow [] 22 0 [], Ob.row 55 2 [int .i64 y18,
 int .i64 y19, sl y20 y21, sl y22 y23, sl y24 y25, sl y26 y27, int .i64 y28, int .i64 y29, sl y30 y31, sl y32 y33, sl y34 y35, sl y36 y37] false]
theorem E22 (y1 y2 y3 y4 y5 y6 y7 y8 y9 y10 y11 y12 y13 y14 y15 y16 y17 y18 y19 y20 y21 y22 y23 y24 y25 y26 y27 y28 y29 y30) (y31
 : List V) (y32 : Nat) (y33 : List V) (y34 : Nat) (y35 : List V) (y36 : Nat) (y37 : List V) (y38 : Int) {r : V} (h : T22 (orcE C) 0 y1 y2 y3 y4 y5 y6 y7 y8 y9 y10 y11 y12 y13 y14 y15 y16 y17 y18
 y19 y20 y21 y22 y23 y24 y25 y26 y27 y28 y29 y30 y31 y32 y33 y34 y35 y36 y37 y38 = some r) : runE C 22 [agg [int .i64 y1, int .i64 y2, sl y3 y4, sl y5 y6, sl y7 y8, sl y9 y10, int .i64
 y11, bool y12, sl y13 y14, int .i64 y15], sl y16 y17, agg [int .i64 y18, int .i64 y19, sl y20 y21, sl y22 y23, sl y24 y25, sl y26 y27], agg [int .i64 y28, int .i64 y29,
 sl y30 y31, sl y32 y33, sl y34 y35, sl y36 y37], int .i64 y38] = some r := ofR (j := 1) (F := fun s => T22 (orc C s.k) s.k y1 y2 y3 y4 y5 y6 y7 y8 y9 y10 y11 y12 y13 y14 y15 y16 y17
 y18 y19 y20 y21 y22 y23 y24 y25 y26 y27 y28 y29 y30 y31 y32 y33 y34 y35 y36 y37 y38) (fun _ => by kernel_rfl) (by
  unfold T22
  repeat' first | (with_reducible first | intro _ | exact cC | apply cN cR | apply cT | apply cI | apply cF | apply cB | apply cN cC | exact cR) | exact cD0 gK) h
def T23 (O : Orc) (y1 y2 : Int) (y3 : Nat) (y4 : List V) (y5 : Nat) (y6 : List V) (y7 : Nat) (y8 : List V) (y9 : Nat) (y10 : List V) (y11 : Int) (y12 : Bool) (y13 : Nat) (y14 : List V) (y15 : Int) (y16 : Nat) (y17 : List V) (y18 y19 : Int) (y20 : Nat) (y21 : List V) (y22 : Nat) (y23 : List V) (y24 : Nat) (y25 : List V) (y26 : Nat) (y27 : List V) (y28 y29 : Int) (y30 : Nat) (y31 : List V) (y32 : Nat) (y33 : List V) (y34 : Nat) (y35 : List V) (y36 : Nat) (y37 : List V) (y38 : Int) : Option V := need (O.R 0 29 [agg [int .i64 y1,
 int .i64 y2, sl y3 y4, sl y5 y6, sl y7 y8, sl y9 y10, int .i64 y11, bool y12, sl y13 y14, int .i64 y15]]) fun x1 => asTup (some x1) fun x2 => PI.asInt .i64 x2[0]? fun x3 => bif x3 !=
 0 then some (tup [int .i64 x3, int .i64 0, int .i64 0, sl 0 [], sl 0 [], sl 0 [], sl 0 [], int .i64 0, bool false, sl 0 [], int .i64 0]) else need (O.R 0 80 [pin [int .i64
 y1, int .i64 y2, sl y3 y4, sl y5 y6, sl y7 y8, sl y9 y10, int .i64 y11, bool y12, sl y13 y14, int .i64 y15] 0, int .i64 y38]) fun x4 => asTup (some x4) fun x5 => PI.asBool x5[0]?
 fun x6 => bif x6 then some (tup [int .i64 10, int .i64 0, int .i64 0, sl 0 [], sl 0 [], sl 0 [], sl 0 [], int .i64 0, bool false, sl 0 [], int .i64 0]) else need (O.R 0 81
 [sl y16 y17, agg [int .i64 y18, int .i64 y19, sl y20 y21, sl y22 y23, sl y24 y25, sl y26 y27]]) fun x7 => asTup (some x7) fun x8 => PI.asInt .i64 x8[0]? fun x9 => bif x9 != 0 then some
 (tup [int .i64 x9, int .i64 0, int .i64 0, sl 0 [], sl 0 [], sl 0 [], sl 0 [], int .i64 0, bool false, sl 0 [], int .i64 0]) else need (O.R 0 81 [sl y16 y17, agg [int
 .i64 y28, int .i64 y29, sl y30 y31, sl y32 y33, sl y34 y35, sl y36 y37]]) fun x10 => asTup (some x10) fun x11 => PI.asInt .i64 x11[0]? fun x12 => bif x12 != 0 then some (tup [int .i64
 x12, int .i64 0, int .i64 0, sl 0 [], sl 0 [], sl 0 [], sl 0 [], int .i64 0, bool false, sl 0 [], int .i64 0]) else bif y18 != y28 then some (tup [int .i64 1, int .i64 0,
 int .i64 0, sl 0 [], sl 0 [], sl 0 [], sl 0 [], int .i64 0, bool false, sl 0 [], int .i64 0]) else need (O.R 0 83 [agg [int .i64 y18, int .i64 y19, sl y20 y21, sl y22 y23,
 sl y24 y25]]) fun x13 => asTup (some x13) fun x14 => asSl x14[0]? fun x15 x16 => need (O.R 0 83 [agg [int .i64 y28, int .i64 y29, sl y30 y31, sl y32 y33, sl y34 y35]]) fun x17 => asTup
 (some x17) fun x18 => asSl x18[0]? fun x19 x20 => need (O.R 0 82 [sl x15 x16, sl x19 x20]) fun x21 => asTup (some x21) fun x22 => PI.asBool x22[0]? fun x23 => bif x23 then some (tup [int .i64
 1, int .i64 0, int .i64 0, sl 0 [], sl 0 [], sl 0 [], sl 0 [], int .i64 0, bool false, sl 0 [], int .i64 0]) else need (O.R 0 84 [sl y16 y17, agg [int .i64 y18, int .i64
 y19, sl y20 y21, sl y22 y23, sl y24 y25, sl y26 y27]]) fun x24 => asTup (some x24) fun x25 => PI.asBool x25[0]? fun x26 => bif !x26 then some (tup [int .i64 6, int .i64 0, int .i64 0,
 sl 0 [], sl 0 [], sl 0 [], sl 0 [], int .i64 0, bool false, sl 0 [], int .i64 0]) else need (O.R 0 84 [sl y16 y17, agg [int .i64 y28, int .i64 y29, sl y30 y31, sl y32 y33,
 sl y34 y35, sl y36 y37]]) fun x27 => asTup (some x27) fun x28 => PI.asBool x28[0]? fun x29 => bif !x29 then some (tup [int .i64 6, int .i64 0, int .i64 0, sl 0 [], sl 0 [], sl 0 [],
 sl 0 [], int .i64 0, bool false, sl 0 [], int .i64 0]) else need (O.R 0 85 [pin [int .i64 y1, int .i64 y2, sl y3 y4, sl y5 y6, sl y7 y8, sl y9 y10, int .i64 y11, bool y12,
 sl y13 y14, int .i64 y15] 0, sl y16 y17, agg [int .i64 y18, int .i64 y19, sl y20 y21, sl y22 y23, sl y24 y25, sl y26 y27]]) fun x30 => asTup (some x30) fun x31 => PI.asBool x31[0]?
 fun x32 => bif !x32 then some (tup [int .i64 6, int .i64 0, int .i64 0, sl 0 [], sl 0 [], sl 0 [], sl 0 [], int .i64 0, bool false, sl 0 [], int .i64 0]) else need (O.R 0 85
 [pin [int .i64 y1, int .i64 y2, sl y3 y4, sl y5 y6, sl y7 y8, sl y9 y10, int .i64 y11, bool y12, sl y13 y14, int .i64 y15] 0, sl y16 y17, agg [int .i64 y28, int .i64 y29,
 sl y30 y31, sl y32 y33, sl y34 y35, sl y36 y37]]) fun x33 => asTup (some x33) fun x34 => PI.asBool x34[0]? fun x35 => bif !x35 then some (tup [int .i64 6, int .i64 0, int .i64 0, sl
 0 [], sl 0 [], sl 0 [], sl 0 [], int .i64 0, bool false, sl 0 [], int .i64 0]) else need (O.R 0 86 [agg [int .i64 y1, int .i64 y2, sl y3 y4, sl y5 y6, sl y7 y8, sl y9 y10,
 int .i64 y11, bool y12, sl y13 y14, int .i64 y15]]) fun x36 => asTup (some x36) fun x37 => PI.asInt .i64 x37[0]? fun x38 => PI.asInt .i64 x37[1]? fun x39 => asOsl x37[2]? fun x40 x41 => asOsl
 x37[3]? fun x42 x43 => asOsl x37[4]? fun x44 x45 => asOsl x37[5]? fun x46 x47 => PI.asInt .i64 x37[6]? fun x48 => PI.asBool x37[7]? fun x49 => asOsl x37[8]? fun x50 x51 => PI.asInt .i64 x37[9]? fun
 x52 => some (tup [int .i64 0, int .i64 x38, int .i64 x39, sl x40 x41, sl x42 x43, sl x44 x45, sl x46 x47, int .i64 x48, bool true, sl x50 x51, int .i64 x52])
theorem E23 (y1 y2 y3 y4 y5 y6 y7 y8 y9 y10 y11 y12 y13 y14 y15 y16 y17 y18 y19 y20 y21 y22 y23 y24 y25 y26 y27 y28 y29 y30) (y31
 : List V) (y32 : Nat) (y33 : List V) (y34 : Nat) (y35 : List V) (y36 : Nat) (y37 : List V) (y38 : Int) {r : V} (h : T23 (orcE C) y1 y2 y3 y4 y5 y6 y7 y8 y9 y10 y11 y12 y13 y14 y15 y16 y17 y18
 y19 y20 y21 y22 y23 y24 y25 y26 y27 y28 y29 y30 y31 y32 y33 y34 y35 y36 y37 y38 = some r) : runE C 23 [agg [int .i64 y1, int .i64 y2, sl y3 y4, sl y5 y6, sl y7 y8, sl y9 y10, int .i64
 y11, bool y12, sl y13 y14, int .i64 y15], sl y16 y17, agg [int .i64 y18, int .i64 y19, sl y20 y21, sl y22 y23, sl y24 y25, sl y26 y27], agg [int .i64 y28, int .i64 y29,
 sl y30 y31, sl y32 y33, sl y34 y35, sl y36 y37], int .i64 y38] = some r := ofR (j := 1) (F := fun s => T23 (orc C s.k) y1 y2 y3 y4 y5 y6 y7 y8 y9 y10 y11 y12 y13 y14 y15 y16 y17
 y18 y19 y20 y21 y22 y23 y24 y25 y26 y27 y28 y29 y30 y31 y32 y33 y34 y35 y36 y37 y38) (fun _ => by kernel_rfl) (by
  unfold T23
  repeat' first | (with_reducible first | intro _ | exact cC | apply cN cR | apply cT | apply cI | apply cF | apply cB | apply cL | apply cO | apply cN cC | exact cR)) h
def T24 (O : Orc) (y1 : Nat) (y2 : List V) (y3 y4 : Int) : Option V := bif decide (y4 ≤ 1) then some (tup [int .i64 0]) else bif (↑y1 : Int) == 0 then must
 (!decide (y4 = 0)) (some (tup [int .i64 ((i64.wrap (y3 * 7)).tmod y4)])) else must (!decide ((↑y1 : Int) = 0)) (must (inB (y3.tmod (↑y1 : Int)) y1) (PI.asInt .u8 y2[(y3.tmod (↑y1 :
 Int)).toNat * 1]? fun x1 => must (!decide ((↑y1 : Int) = 0)) (bif decide (y4 > 200) then must (!decide ((↑y1 : Int) = 0)) (must (inB ((i64.wrap (y3 + 1)).tmod (↑y1 : Int)) y1) (PI.asInt .u8
 y2[((i64.wrap (y3 + 1)).tmod (↑y1 : Int)).toNat * 1]? fun x2 => must (!decide (y4 = 0)) (some (tup [int .i64 ((i64.wrap (i64.wrap (i64.wrap (i64.wrap x1 +
 i64.wrap (i64.wrap (y3.tdiv (↑y1 : Int)) * 3)) * 251) + i64.wrap x2)).tmod y4)])))) else must (!decide (y4 = 0)) (some (tup [int .i64 ((i64.wrap (i64.wrap
 x1 + i64.wrap (i64.wrap (y3.tdiv (↑y1 : Int)) * 3))).tmod y4)])))))
theorem E24 (y1 y2 y3 y4) {r : V} (h : T24 (orcE C) y1 y2 y3 y4 = some r) : runE C 24 [sl y1 y2, int .i64 y3, int .i64 y4] = some r := ofR (j := 1) (F :=
 fun s => T24 (orc C s.k) y1 y2 y3 y4) (fun _ => by kernel_rfl) (by
  unfold T24
  repeat' first | (with_reducible first | intro _ | exact cC | apply cI | apply cM | apply cF)) h
def T25 (O : Orc) (y1 y2 : Int) (y3 : Nat) (y4 : List V) (y5 : Nat) (y6 : List V) (y7 : Nat) (y8 : List V) (y9 : Nat) (y10 : List V) (y11 : Int) (y12 : Bool) (y13 : Nat) (y14 : List V) (y15 y16 y17 : Int) (y18 : Nat) (y19 : List V) (y20 : Nat) (y21 : List V) (y22 : Nat) (y23 : List V) (y24 : Nat) (y25 : List V) : Option V := need (O.R 0 31
 [agg [int .i64 y1, int .i64 y2, sl y3 y4, sl y5 y6, sl y7 y8, sl y9 y10, int .i64 y11, bool y12, sl y13 y14, int .i64 y15]]) fun x1 => asTup (some x1) fun x2 => PI.asInt .i64
 x2[0]? fun x3 => bif x3 != 0 then some (tup [int .i64 x3, int .i64 0, int .i64 0, osl 0 [], osl 0 [], osl 0 [], osl 0 [], int .i64 0, bool false, osl 0 [], int .i64 0]) else
 bif !y12 then some (tup [int .i64 1, int .i64 0, int .i64 0, osl 0 [], osl 0 [], osl 0 [], osl 0 [], int .i64 0, bool false, osl 0 [], int .i64 0]) else bif decide (y16 ≤ y1)
 then some (tup [int .i64 3, int .i64 0, int .i64 0, osl 0 [], osl 0 [], osl 0 [], osl 0 [], int .i64 0, bool false, osl 0 [], int .i64 0]) else need (O.R 0 87 [agg [int
 .i64 y16, int .i64 y17, sl y18 y19, sl y20 y21, sl y22 y23], sl y24 y25, int .i64 y11]) fun x4 => asTup (some x4) fun x5 => PI.asInt .i64 x5[0]? fun x6 => PI.asInt .i64 x5[1]? fun x7 =>
 PI.asInt .i64 x5[2]? fun x8 => asOsl x5[3]? fun x9 x10 => asOsl x5[4]? fun x11 x12 => asOsl x5[5]? fun x13 x14 => asOsl x5[6]? fun x15 x16 => PI.asInt .i64 x5[7]? fun x17 => PI.asBool x5[8]? fun x18
 => asOsl x5[9]? fun x19 x20 => PI.asInt .i64 x5[10]? fun x21 => must (false || x10.all flatV) (must (false || x12.all flatV) (must (false || x14.all flatV) (some (tup [int .i64 x6, int .i64 x7,
 int .i64 x8, osl x9 x10, osl x11 x12, osl x13 x14, osl x15 x16, int .i64 x17, bool x18, osl x19 x20, int .i64 x21]))))
theorem E25 (y1 y2 y3 y4 y5 y6 y7 y8 y9 y10 y11 y12 y13 y14 y15 y16 y17 y18 y19 y20 y21 y22 y23 y24 y25) {r : V} (h : T25 (orcE C) y1 y2 y3 y4 y5 y6 y7 y8 y9 y10 y11
 y12 y13 y14 y15 y16 y17 y18 y19 y20 y21 y22 y23 y24 y25 = some r) : runE C 25 [agg [int .i64 y1, int .i64 y2, sl y3 y4, sl y5 y6, sl y7 y8, sl y9 y10, int .i64 y11, bool y12, sl
 y13 y14, int .i64 y15], agg [int .i64 y16, int .i64 y17, sl y18 y19, sl y20 y21, sl y22 y23], sl y24 y25] = some r := ofR (j := 1) (F := fun s => T25 (orc C s.k) y1 y2 y3
 y4 y5 y6 y7 y8 y9 y10 y11 y12 y13 y14 y15 y16 y17 y18 y19 y20 y21 y22 y23 y24 y25) (fun _ => by kernel_rfl) (by
  unfold T25
  repeat' first | (with_reducible first | intro _ | exact cC | apply cN cR | apply cT | apply cI | apply cM | apply cF | apply cB | apply cO | apply cN cC | exact cR)) h
def T26 (O : Orc) (y1 y2 : Int) (y3 : Nat) (y4 : List V) (y5 : Nat) (y6 : List V) (y7 : Nat) (y8 : List V) (y9 : Nat) (y10 : List V) (y11 : Int) (y12 : Bool) (y13 : Nat) (y14 : List V) (y15 y16 y17 : Int) (y18 : Nat) (y19 : List V) (y20 : Nat) (y21 : List V) (y22 : Nat) (y23 : List V) (y24 : Nat) (y25 : List V) (y26 : Nat) (y27 : List V) (y28 : Int) : Option V := need (O.R 0 88 [agg [int .i64 y1, int .i64 y2, sl y3 y4, sl y5 y6, sl y7 y8, sl y9 y10, int .i64 y11, bool y12, sl y13 y14, int .i64 y15], int .i64
 y28]) fun x1 => asTup (some x1) fun x2 => PI.asInt .i64 x2[0]? fun x3 => bif x3 != 0 then some (tup [int .i64 x3, int .i64 0, int .i64 0, osl 0 [], osl 0 [], osl 0 [], osl 0 [], int
 .i64 0, bool false, osl 0 [], int .i64 0]) else need (O.R 0 75 [sl y9 y10, agg [int .i64 y16, int .i64 y17, sl y18 y19, sl y20 y21, sl y22 y23, sl y24 y25]]) fun x4 => asTup
 (some x4) fun x5 => PI.asInt .i64 x5[0]? fun x6 => bif x6 != 0 then some (tup [int .i64 x6, int .i64 0, int .i64 0, osl 0 [], osl 0 [], osl 0 [], osl 0 [], int .i64 0, bool false,
 osl 0 [], int .i64 0]) else need (O.R 0 89 [agg [int .i64 y1, int .i64 y2, sl y3 y4, sl y5 y6, sl y7 y8, sl y9 y10, int .i64 y11, bool y12, sl y13 y14, int .i64 y15], agg
 [int .i64 y16, int .i64 y17, sl y18 y19, sl y20 y21, sl y22 y23], bool (y16 == i64.wrap (y1 + 1)), int .i64 y28]) fun x7 => asTup (some x7) fun x8 => PI.asInt .i64 x8[0]? fun x9
 => bif x9 != 0 then some (tup [int .i64 x9, int .i64 0, int .i64 0, osl 0 [], osl 0 [], osl 0 [], osl 0 [], int .i64 0, bool false, osl 0 [], int .i64 0]) else need (O.R 0 90
 [sl y9 y10, agg [int .i64 y16, int .i64 y17, sl y18 y19, sl y20 y21, sl y22 y23, sl y24 y25]]) fun x10 => asTup (some x10) fun x11 => PI.asBool x11[0]? fun x12 => bif !x12 then some
 (tup [int .i64 6, int .i64 0, int .i64 0, osl 0 [], osl 0 [], osl 0 [], osl 0 [], int .i64 0, bool false, osl 0 [], int .i64 0]) else need (O.R 0 91 [agg [int .i64 y1,
 int .i64 y2, sl y3 y4, sl y5 y6, sl y7 y8, sl y9 y10, int .i64 y11, bool y12, sl y13 y14, int .i64 y15], agg [int .i64 y16, int .i64 y17, sl y18 y19, sl y20 y21, sl y22
 y23], sl y26 y27]) fun x13 => asTup (some x13) fun x14 => PI.asInt .i64 x14[0]? fun x15 => PI.asInt .i64 x14[1]? fun x16 => PI.asInt .i64 x14[2]? fun x17 => asOsl x14[3]? fun x18 x19 => asOsl
 x14[4]? fun x20 x21 => asOsl x14[5]? fun x22 x23 => asOsl x14[6]? fun x24 x25 => PI.asInt .i64 x14[7]? fun x26 => PI.asBool x14[8]? fun x27 => asOsl x14[9]? fun x28 x29 => PI.asInt .i64 x14[10]? fun
 x30 => must (false || x19.all flatV) (must (false || x21.all flatV) (must (false || x23.all flatV) (some (tup [int .i64 x15, int .i64 x16, int .i64 x17, osl x18 x19, osl x20 x21, osl x22
 x23, osl x24 x25, int .i64 x26, bool x27, osl x28 x29, int .i64 x30]))))
theorem E26 (y1 y2 y3 y4 y5 y6 y7 y8 y9 y10 y11 y12 y13 y14 y15 y16 y17 y18 y19 y20 y21 y22 y23 y24 y25 y26 y27 y28) {r : V} (h : T26 (orcE C) y1 y2 y3 y4 y5 y6 y7 y8 y9 y10 y11 y12 y13 y14 y15 y16 y17 y18 y19 y20 y21 y22 y23 y24 y25 y26 y27 y28 = some r) : runE C 26 [agg [int .i64 y1, int .i64 y2, sl y3 y4, sl y5 y6, sl y7
 y8, sl y9 y10, int .i64 y11, bool y12, sl y13 y14, int .i64 y15], agg [int .i64 y16, int .i64 y17, sl y18 y19, sl y20 y21, sl y22 y23, sl y24 y25], sl y26 y27, int .i64
 y28] = some r := ofR (j := 1) (F := fun s => T26 (orc C s.k) y1 y2 y3 y4 y5 y6 y7 y8 y9 y10 y11 y12 y13 y14 y15 y16 y17 y18 y19 y20 y21 y22 y23 y24 y25 y26 y27 y28) (fun _ => by
 kernel_rfl) (by
  unfold T26
  repeat' first | (with_reducible first | intro _ | exact cC | apply cN cR | apply cT | apply cI | apply cM | apply cF | apply cB | apply cO | apply cN cC | exact cR)) h
def T27 (O : Orc) (y1 y2 : Int) (y3 : Nat) (y4 : List V) (y5 : Nat) (y6 : List V) (y7 : Nat) (y8 : List V) (y9 : Nat) (y10 : List V) (y11 : Int) (y12 : Bool) (y13 : Nat) (y14 : List V) (y15 y16 : Int) (y17 : Nat) (y18 : List V) (y19 y20 : Int) (y21 : Nat) (y22 : List V) : Option V := need (O.R 0 31 [agg [int .i64 y1, int .i64 y2, sl
 y3 y4, sl y5 y6, sl y7 y8, sl y9 y10, int .i64 y11, bool y12, sl y13 y14, int .i64 y15]]) fun x1 => asTup (some x1) fun x2 => PI.asInt .i64 x2[0]? fun x3 => bif x3 != 0 then some (tup
 [int .i64 x3]) else need (O.R 0 92 [agg [int .i64 y1, int .i64 y2, sl y3 y4, sl y5 y6, sl y7 y8, sl y9 y10, int .i64 y11, bool y12, sl y13 y14, int .i64 y15], int .i64 y16,
 sl y17 y18, agg [int .i64 y19, int .i64 y20, sl y21 y22]]) fun x4 => asTup (some x4) fun x5 => PI.asInt .i64 x5[0]? fun x6 => some (tup [int .i64 x6])
theorem E27 (y1 y2 y3 y4 y5 y6 y7 y8 y9 y10 y11 y12 y13 y14 y15 y16 y17 y18 y19 y20 y21 y22) {r : V} (h : T27 (orcE C) y1 y2 y3 y4 y5 y6 y7 y8 y9 y10 y11 y12 y13 y14 y15 y16 y17 y18 y19 y20 y21
 y22 = some r) : runE C 27 [agg [int .i64 y1, int .i64 y2, sl y3 y4, sl y5 y6, sl y7 y8, sl y9 y10, int .i64 y11, bool y12, sl y13 y14, int .i64 y15], int .i64 y16, sl y17
 y18, agg [int .i64 y19, int .i64 y20, sl y21 y22]] = some r := ofR (j := 1) (F := fun s => T27 (orc C s.k) y1 y2 y3 y4 y5 y6 y7 y8 y9 y10 y11 y12 y13 y14 y15 y16 y17 y18 y19 y20
 y21 y22) (fun _ => by kernel_rfl) (by
  unfold T27
  repeat' first | (with_reducible first | intro _ | exact cC | apply cN cR | apply cT | apply cI | apply cF | apply cN cC | exact cR)) h
def T66 (O : Orc) (k : Nat) (y1 : Nat) (y2 : List V) (y3 : Int) : Option V := need (O.W 0 41 [] [ptr 0 0, int .i64 3] [Ob.box 142 [sl y1 y2, int .i64 y3] false]) fun x1 =>
 asTup (some x1) fun x2 => PI.asInt .i64 x2[0]? fun x3 => asSl x2[1]? fun x4 x5 => PI.asInt .i64 x2[2]? fun x6 => need (O.W 0 67 [] [ptr 0 0, int .i64 (i64.wrap (1 + x3)), int .i64 0]
 [Ob.box 142 [sl x4 x5, int .i64 x6] false]) fun x7 => asTup (some x7) fun x8 => asSl x8[0]? fun x9 x10 => asSl x8[1]? fun x11 x12 => asSl x8[2]? fun x13 x14 => PI.asInt .i64 x8[3]? fun x15 => need
 (O.W 0 41 [] [ptr 0 0, int .i64 4] [Ob.box 142 [sl x13 x14, int .i64 x15] false]) fun x16 => asTup (some x16) fun x17 => PI.asInt .i64 x17[0]? fun x18 => asSl x17[1]? fun x19 x20 => PI.asInt
 .i64 x17[2]? fun x21 => O.X 0 66 [] [Ob.box 142 [V.u, V.u] false] 0 [true, true, true, true, false, true] [] k [(0, ptr 0 0), (2, ptr 1 0), (4, sl x9 x10), (5, sl x11 x12), (6, ref 9), (7,
 int .i64 x18)] [Ob.box 142 [sl x19 x20, int .i64 x21] false, Ob.box 106 [int .i64 0, int .i64 0, ref 2, ref 3, ref 4, ref 5, int .i64 0, bool false, ref 6, int .i64 0, ref
 7, ref 8] false, Ob.row 5 0 [] false, Ob.row 5 0 [] false, Ob.row 5 0 [] false, Ob.row 161 0 [] false, Ob.nrow [] 22 0 [], Ob.nrow [] 22 0 [], Ob.nrow [] 22 0 [], Ob.row 22 0 [] false]
theorem E66 (y1 y2 y3) {r : V} (h : T66 (orcE C) 0 y1 y2 y3 = some r) : runWE C 66 [] [ptr 0 0] [Ob.box 142 [sl y1 y2, int .i64 y3] false] = some r := ofW (j := 1)
 (F := fun s => T66 (orc C s.k) s.k y1 y2 y3) (fun _ => by kernel_rfl) (by
  unfold T66
  repeat' first | (with_reducible first | intro _ | exact cC | apply cN cQ | apply cT | apply cI | apply cL | apply cN cC | exact cQ) | exact cX0 gK) h
def T40 (O : Orc) (y1 : Int) (y2 : Nat) (y3 : List V) (y4 : Int) : Option V := need (O.W 0 41 [] [ptr 0 0, int .i64 y1] [Ob.box 142 [sl y2 y3, int .i64 y4]
 false]) fun x1 => asTup (some x1) fun x2 => PI.asInt .i64 x2[0]? fun x3 => asSl x2[1]? fun x4 x5 => PI.asInt .i64 x2[2]? fun x6 => some (tup [bool (x3 == 0), sl x4 x5, int .i64 x6])
theorem E40 (y1 y2 y3 y4) {r : V} (h : T40 (orcE C) y1 y2 y3 y4 = some r) : runWE C 40 [] [ptr 0 0, int .i64 y1] [Ob.box 142 [sl y2 y3, int .i64 y4]
 false] = some r := ofW (j := 1) (F := fun s => T40 (orc C s.k) y1 y2 y3 y4) (fun _ => by kernel_rfl) (by
  unfold T40
  repeat' first | (with_reducible first | intro _ | exact cC | apply cN cQ | apply cT | apply cI | apply cL | apply cN cC | exact cQ)) h
def T41 (O : Orc) (y1 : Int) (y2 : Nat) (y3 : List V) (y4 : Int) : Option V := bif decide (y1 < 1) then some (tup [int .i64 0, sl y2 y3, int .i64
 (i64.wrap (y4 + 1))]) else bif (↑y2 : Int) == 0 then must (!decide (y1 = 0)) (some (tup [int .i64 ((i64.wrap (i64.wrap (i64.wrap (y4 + 1) - 1) * 7)).tmod y1), sl
 y2 y3, int .i64 (i64.wrap (y4 + 1))])) else must (!decide ((↑y2 : Int) = 0)) (must (inB ((i64.wrap (i64.wrap (y4 + 1) - 1)).tmod (↑y2 : Int)) y2) (PI.asInt .u8
 y3[((i64.wrap (i64.wrap (y4 + 1) - 1)).tmod (↑y2 : Int)).toNat * 1]? fun x1 => must (!decide ((↑y2 : Int) = 0)) (bif decide (y1 > 200) then must (!decide ((↑y2 : Int) = 0)) (must (inB
 ((i64.wrap (i64.wrap (i64.wrap (y4 + 1) - 1) + 1)).tmod (↑y2 : Int)) y2) (PI.asInt .u8 y3[((i64.wrap (i64.wrap (i64.wrap (y4 + 1) - 1) + 1)).tmod (↑y2 :
 Int)).toNat * 1]? fun x2 => must (!decide (y1 = 0)) (some (tup [int .i64 ((i64.wrap (i64.wrap (i64.wrap (i64.wrap (i64.wrap x1 + i64.wrap
 (i64.wrap ((i64.wrap (i64.wrap (y4 + 1) - 1)).tdiv (↑y2 : Int)) * 37)) * 251) + i64.wrap (i64.wrap x2 * 13)) + i64.wrap (i64.wrap (y4 + 1) -
 1))).tmod y1), sl y2 y3, int .i64 (i64.wrap (y4 + 1))])))) else must (!decide (y1 = 0)) (some (tup [int .i64 ((i64.wrap (i64.wrap x1 + i64.wrap
 (i64.wrap ((i64.wrap (i64.wrap (y4 + 1) - 1)).tdiv (↑y2 : Int)) * 37))).tmod y1), sl y2 y3, int .i64 (i64.wrap (y4 + 1))])))))
theorem E41 (y1 y2 y3 y4) {r : V} (h : T41 (orcE C) y1 y2 y3 y4 = some r) : runWE C 41 [] [ptr 0 0, int .i64 y1] [Ob.box 142 [sl y2 y3, int .i64 y4]
 false] = some r := ofW (j := 1) (F := fun s => T41 (orc C s.k) y1 y2 y3 y4) (fun _ => by kernel_rfl) (by
  unfold T41
  repeat' first | (with_reducible first | intro _ | exact cC | apply cI | apply cM | apply cF)) h
def T67 (O : Orc) (k : Nat) (y1 y2 : Int) (y3 : Nat) (y4 : List V) (y5 : Int) : Option V := O.X 0 67 [] [Ob.box 142 [V.u, V.u] false] 0 [true, true, true, false, true] []
 k [(0, ptr 0 0), (1, int .i64 y1), (2, int .i64 y2), (8, ref 1), (9, ref 2), (10, int .i64 0)] [Ob.box 142 [sl y3 y4, int .i64 y5] false, Ob.row 22 0 [] false, Ob.row 161 0 [] false]
theorem E67 (y1 y2 y3 y4 y5) {r : V} (h : T67 (orcE C) 0 y1 y2 y3 y4 y5 = some r) : runWE C 67 [] [ptr 0 0, int .i64 y1, int .i64 y2] [Ob.box 142
 [sl y3 y4, int .i64 y5] false] = some r := ofW (j := 1) (F := fun s => T67 (orc C s.k) s.k y1 y2 y3 y4 y5) (fun _ => by kernel_rfl) (by
  unfold T67
  repeat' first | with_reducible exact cC | exact cX0 gK) h
def T68 (O : Orc) (y1 : Nat) (y2 : List V) : Option V := bif (↑y1 : Int) == 0 then need (O.R 0 138 [str { data := #[(110 : UInt8), (111 : UInt8), (110 : UInt8), (101 :
 UInt8)] }, sl 0 []]) fun x1 => asTup (some x1) fun x2 => asOsl x2[0]? fun x3 x4 => must (false || x4.all flatV) (some (tup [osl x3 x4])) else bif (↑y1 : Int) == 1 then must (inB 0 y1) (must
 (decide (0 < y2.length)) (asSl y2[0]? fun x5 x6 => need (O.R 0 139 [sl x5 x6]) fun x7 => asTup (some x7) fun x8 => asOsl x8[0]? fun x9 x10 => must (false || x10.all flatV) (some (tup [osl x9
 x10])))) else need (O.R 0 140 [int .i64 (↑y1 : Int)]) fun x11 => asTup (some x11) fun x12 => PI.asInt .i64 x12[0]? fun x13 => must (decide (0 ≤ x13) && decide (x13 ≤ (↑y1 : Int))) (must (decide (0 ≤
 x13) && decide (x13 ≤ (↑y1 : Int))) (need (O.R 0 68 [sl (x13.toNat - 0) (List.take ((x13.toNat - 0) * 1) (List.drop 0 y2))]) fun x14 => asTup (some x14) fun x15 => asOsl x15[0]? fun x16 x17 => need
 (O.R 0 68 [sl (y1 - x13.toNat) (List.take ((y1 - x13.toNat) * 1) (List.drop (x13.toNat * 1) y2))]) fun x18 => asTup (some x18) fun x19 => asOsl x19[0]? fun x20 x21 => need (O.R 0 141 [sl x16 x17,
 sl x20 x21]) fun x22 => asTup (some x22) fun x23 => asOsl x23[0]? fun x24 x25 => must (false || x25.all flatV) (some (tup [osl x24 x25]))))
theorem E68 (y1 y2) {r : V} (h : T68 (orcE C) y1 y2 = some r) : runE C 68 [sl y1 y2] = some r := ofR (j := 1) (F := fun s => T68 (orc C s.k) y1 y2) (fun _ => by
 kernel_rfl) (by
  unfold T68
  repeat' first | (with_reducible first | intro _ | exact cC | apply cN cR | apply cT | apply cI | apply cM | apply cF | apply cL | apply cO | apply cN cC | exact cR)) h
def T69 (O : Orc) (k : Nat) (y1 : Nat) (y2 : List V) : Option V := O.L 0 69 0 [true, true, false, true] [] k [(0, sl y1 y2), (3, ref 0), (4, int .i64 0)] [Ob.row 22 0 []
 false]
theorem E69 (y1 y2) {r : V} (h : T69 (orcE C) 0 y1 y2 = some r) : runE C 69 [sl y1 y2] = some r := ofR (j := 1) (F := fun s => T69 (orc C s.k) s.k y1 y2) (fun _ => by
 kernel_rfl) (by
  unfold T69
  repeat' first | with_reducible exact cC | exact cD0 gK) h
def T70 (O : Orc) (k : Nat) (y1 : Int) (y2 : Nat) (y3 : List V) (y4 : Int) : Option V := O.X 0 70 [] [Ob.box 142 [V.u, V.u] false] 0 [true, true, false] [] k [(0, ptr 0 0), (1,
 int .i64 y1), (5, ref 1)] [Ob.box 142 [sl y2 y3, int .i64 y4] false, Ob.row 5 0 [] false]
theorem E70 (y1 y2 y3 y4) {r : V} (h : T70 (orcE C) 0 y1 y2 y3 y4 = some r) : runWE C 70 [] [ptr 0 0, int .i64 y1] [Ob.box 142 [sl y2 y3, int .i64 y4]
 false] = some r := ofW (j := 1) (F := fun s => T70 (orc C s.k) s.k y1 y2 y3 y4) (fun _ => by kernel_rfl) (by
  unfold T70
  repeat' first | with_reducible exact cC | exact cX0 gK) h
def T72 (O : Orc) (k : Nat) (y1 : Int) (y2 : Nat) (y3 : List V) (y4 : Int) : Option V := O.X 0 72 [] [Ob.box 142 [V.u, V.u] false] 0 [true, true, false, true] [] k [(0, ptr 0
 0), (1, int .i64 y1), (5, ref 1), (6, int .i64 0)] [Ob.box 142 [sl y2 y3, int .i64 y4] false, Ob.row 2 0 [] false]
theorem E72 (y1 y2 y3 y4) {r : V} (h : T72 (orcE C) 0 y1 y2 y3 y4 = some r) : runWE C 72 [] [ptr 0 0, int .i64 y1] [Ob.box 142 [sl y2 y3, int .i64 y4]
 false] = some r := ofW (j := 1) (F := fun s => T72 (orc C s.k) s.k y1 y2 y3 y4) (fun _ => by kernel_rfl) (by
  unfold T72
  repeat' first | with_reducible exact cC | exact cX0 gK) h
def T71 (O : Orc) (k : Nat) (y1 : Nat) (y2 : List V) (y3 : Nat) (y4 : List V) (y5 y6 y7 : Int) (y8 : Nat) (y9 : List V) (y10 : Nat) (y11 : List V) (y12 : Nat) (y13
 : List V) : Option V := need (O.R 0 144 [agg [int .i64 y6, int .i64 y7, sl y8 y9, sl y10 y11, sl y12 y13]]) fun x1 => asTup (some x1) fun x2 => PI.asInt .i64 x2[0]? fun x3 => PI.asInt .i64
 x2[1]? fun x4 => asOsl x2[2]? fun x5 x6 => asOsl x2[3]? fun x7 x8 => asOsl x2[4]? fun x9 x10 => need (O.R 0 83 [agg [int .i64 y6, int .i64 y7, sl y8 y9, sl y10 y11, sl y12 y13]]) fun x11
 => asTup (some x11) fun x12 => asSl x12[0]? fun x13 x14 => O.L 0 71 0 [true, true, true, false, true] [] k [(0, sl y1 y2), (1, sl y3 y4), (2, int .i64 y5), (8, ptr 0 0), (9, ptr 5 0), (10,
 sl x13 x14), (11, int .i64 0)] [Ob.box 55 [int .i64 0, int .i64 0, ref 1, ref 2, ref 3, ref 4] false, Ob.row 5 0 [] false, Ob.row 5 0 [] false, Ob.row 5 0 [] false, Ob.nrow [] 170 0
 [], Ob.box 55 [int .i64 x3, int .i64 x4, ref 6, ref 7, ref 8, ref 9] false, Ob.row 5 x5 x6 false, Ob.row 5 x7 x8 false, Ob.row 5 x9 x10 false, Ob.nrow [] 170 0 []]
theorem E71 (y1 y2 y3 y4 y5 y6 y7 y8 y9 y10 y11 y12 y13) {r : V} (h : T71 (orcE C) 0 y1 y2 y3 y4 y5 y6 y7 y8 y9 y10 y11 y12 y13 = some r) : runE C 71 [sl y1 y2, sl y3 y4, int .i64 y5, agg [int .i64 y6, int .i64 y7, sl y8 y9, sl y10 y11, sl y12 y13]] = some r :=
 ofR (j := 1) (F := fun s => T71 (orc C s.k) s.k y1 y2 y3 y4 y5 y6 y7 y8 y9 y10 y11 y12 y13) (fun _ => by kernel_rfl) (by
  unfold T71
  repeat' first | (with_reducible first | intro _ | exact cC | apply cN cR | apply cT | apply cI | apply cL | apply cO | apply cN cC | exact cR) | exact cD0 gK) h
def T73 (O : Orc) (y1 y2 : Int) (y3 : Nat) (y4 : List V) (y5 : Nat) (y6 : List V) (y7 : Nat) (y8 : List V) (y9 : Nat) (y10 : List V) (y11 : Int) (y12 : Bool) (y13 : Nat) (y14 : List V) (y15 y16 y17 : Int) (y18 : Nat) (y19 : List V) (y20 : Nat) (y21 : List V) (y22 : Nat) (y23 : List V) (y24 : Nat) (y25 : List V) (y26 : Nat) (y27 : List V) (y28 : Int) : Option V := need (O.W 0 94 [] [ptr 0 0, sl 7 [int .i64 y17, int .i64 (i64.wrap (y17 + 2)), int .i64 (i64.wrap (y17 + 2)), int .i64 (i64.wrap (y2 +
 y11)), int .i64 (i64.wrap (i64.wrap (y2 + y11) + 1)), int .i64 (i64.wrap (y17 - 1)), int .i64 (-1)]] [Ob.box 142 [sl y26 y27, int .i64 y28] false]) fun x1 => asTup
 (some x1) fun x2 => PI.asInt .i64 x2[0]? fun x3 => asSl x2[1]? fun x4 x5 => PI.asInt .i64 x2[2]? fun x6 => some (tup [int .i64 x3, sl x4 x5, int .i64 x6])
theorem E73 (y1 y2 y3 y4 y5 y6 y7 y8 y9 y10 y11 y12 y13 y14 y15 y16 y17 y18 y19 y20 y21 y22 y23 y24 y25 y26 y27 y28) {r : V} (h : T73 (orcE C) y1 y2 y3 y4 y5 y6 y7 y8 y9 y10 y11 y12 y13 y14 y15 y16 y17 y18 y19 y20 y21 y22 y23 y24 y25 y26 y27 y28 = some r) : runWE C 73 [] [ptr 0 0, agg [int .i64 y1, int .i64 y2, sl y3 y4, sl
 y5 y6, sl y7 y8, sl y9 y10, int .i64 y11, bool y12, sl y13 y14, int .i64 y15], agg [int .i64 y16, int .i64 y17, sl y18 y19, sl y20 y21, sl y22 y23, sl y24 y25]] [Ob.box 142
 [sl y26 y27, int .i64 y28] false] = some r := ofW (j := 1) (F := fun s => T73 (orc C s.k) y1 y2 y3 y4 y5 y6 y7 y8 y9 y10 y11 y12 y13 y14 y15 y16 y17 y18 y19 y20 y21 y22 y23 y24 y25 y26
 y27 y28) (fun _ => by kernel_rfl) (by
  unfold T73
  repeat' first | (with_reducible first | intro _ | exact cC | apply cN cQ | apply cT | apply cI | apply cL | apply cN cC | exact cQ)) h
def T31 (O : Orc) (y1 y2 : Int) (y3 : Nat) (y4 : List V) (y5 : Nat) (y6 : List V) (y7 : Nat) (y8 : List V) (y9 : Nat) (y10 : List V) (y11 : Int) (y12 : Bool) (y13 : Nat) (y14 : List V) (y15 : Int) : Option V := need (O.R 0 101 [agg [int .i64 y1, int .i64 y2, sl y3 y4, sl y5 y6, sl y7 y8]]) fun x1 => asTup (some x1) fun x2 => PI.asInt .i64
 x2[0]? fun x3 => bif x3 != 0 then some (tup [int .i64 x3]) else need (O.R 0 102 [sl y9 y10]) fun x4 => asTup (some x4) fun x5 => PI.asInt .i64 x5[0]? fun x6 => bif x6 != 0 then some (tup
 [int .i64 x6]) else need (O.R 0 103 [sl y9 y10]) fun x7 => asTup (some x7) fun x8 => asSl x8[0]? fun x9 x10 => need (O.R 0 76 [sl y7 y8, sl x9 x10]) fun x11 => asTup (some x11) fun x12 =>
 PI.asBool x12[0]? fun x13 => bif !x13 then some (tup [int .i64 1]) else need (O.R 0 51 [int .i64 y11, int .i64 1, int .i64 1099511627776]) fun x14 => asTup (some x14) fun x15 => PI.asBool
 x15[0]? fun x16 => bif !x16 then some (tup [int .i64 3]) else bif decide ((↑y13 : Int) > 24) then some (tup [int .i64 2]) else bif (↑y13 : Int) == 0 then some (tup [int .i64 1]) else bif
 decide (y15 < 1) then some (tup [int .i64 1]) else bif decide (y15 > 1000000) then some (tup [int .i64 1]) else bif i64.wrap (i64.wrap (y15 + (↑y13 : Int)) - 1) != y1 then some
 (tup [int .i64 1]) else must (inB (i64.wrap ((↑y13 : Int) - 1)) y13) (must (decide ((i64.wrap ((↑y13 : Int) - 1)).toNat * 1 < y14.length)) (asSl y14[(i64.wrap ((↑y13 : Int)
 - 1)).toNat * 1]? fun x17 x18 => need (O.R 0 76 [sl x17 x18, sl y3 y4]) fun x19 => asTup (some x19) fun x20 => PI.asBool x20[0]? fun x21 => bif !x21 then some (tup [int .i64 1]) else need (O.R
 0 104 [sl y13 y14, fn 105 []]) fun x22 => asTup (some x22) fun x23 => PI.asBool x23[0]? fun x24 => bif x24 then some (tup [int .i64 1]) else some (tup [int .i64 0])))
theorem E31 (y1 y2 y3 y4 y5 y6 y7 y8 y9 y10 y11 y12 y13 y14 y15) {r
 : V} (h : T31 (orcE C) y1 y2 y3 y4 y5 y6 y7 y8 y9 y10 y11 y12 y13 y14 y15 = some r) : runE C 31 [agg [int .i64 y1, int .i64 y2, sl y3 y4, sl y5 y6, sl y7 y8, sl y9 y10, int
 .i64 y11, bool y12, sl y13 y14, int .i64 y15]] = some r := ofR (j := 1) (F := fun s => T31 (orc C s.k) y1 y2 y3 y4 y5 y6 y7 y8 y9 y10 y11 y12 y13 y14 y15) (fun _ => by kernel_rfl) (by
  unfold T31
  repeat' first | (with_reducible first | intro _ | exact cC | apply cN cR | apply cT | apply cI | apply cM | apply cF | apply cB | apply cL | apply cN cC | exact cR)) h
def T74 (O : Orc) (y1 y2 : Int) (y3 : Nat) (y4 : List V) (y5 : Nat) (y6 : List V) (y7 : Nat) (y8 : List V) (y9 : Nat) (y10 : List V) (y11 : Int) (y12 : Bool) (y13 : Nat) (y14 : List V) (y15 y16 : Int) : Option V := need (O.R 0 51 [int .i64 y16, int .i64 0, int .i64 (i64.wrap (y2 + y11))]) fun x1 => asTup (some x1) fun x2 => PI.asBool
 x2[0]? fun x3 => some (tup [bool !x3])
theorem E74 (y1 y2 y3 y4 y5 y6 y7 y8 y9 y10 y11 y12 y13 y14 y15 y16) {r : V} (h : T74 (orcE C) y1 y2 y3 y4 y5 y6 y7 y8 y9 y10 y11 y12 y13 y14 y15 y16 = some r) : runE C 74 [agg [int .i64 y1, int .i64 y2, sl y3 y4, sl y5 y6, sl y7 y8,
 sl y9 y10, int .i64 y11, bool y12, sl y13 y14, int .i64 y15], int .i64 y16] = some r := ofR (j := 1) (F := fun s => T74 (orc C s.k) y1 y2 y3 y4 y5 y6 y7 y8 y9 y10 y11 y12 y13
 y14 y15 y16) (fun _ => by kernel_rfl) (by
  unfold T74
  repeat' first | (with_reducible first | intro _ | exact cC | apply cN cR | apply cT | apply cB | apply cN cC | exact cR)) h
def T22l1 (O : Orc) (m : Nat) (y1 : Nat) (y2 : List V) (y3 y4 y5 y6 y7 : Int) (y8 : Nat) (y9 : List V) (y10 : Nat) (y11 : List V) (y12 : Nat) (y13
 : List V) (y14 : Nat) (y15 : List V) (y16 : Int) (y17 : Bool) (y18 : Nat) (y19 : List V) (y20 : Int) (y21 : Int) (y22 : Int) (y23 : Nat) (y24 : List V) (y25 : Nat) (y26 : List V) (y27 : Nat) (y28 :
 List V) (y29 : Nat) (y30 : List V) (y31 : Int) (y32 : Int) (y33 : Nat) (y34 : List V) (y35 : Nat) (y36 : List V) (y37 : Nat) (y38 : List V) (y39 : Nat) (y40 : List V) (y41 : Int) (y42 : Int) (y43 :
 Int) (y44 : Int) (y45 : Bool) (y46 : Int) (y47 : Nat) (y48 : List V) (y49 : Nat) (y50 : List V) (y51 : Nat) (y52 : List V) (y53 : Nat) (y54 : List V) (y55 : Nat) (y56 : List V) (y57 : Nat) (y58 : List
 V) : Option V := bif decide (y5 < y4) then must (inB y5 y57) (PI.asInt .i64 y58[y5.toNat * 6]? fun x1 => PI.asInt .i64 y58[y5.toNat * 6 + 1]? fun x2 => asSl y58[y5.toNat * 6 + 1 + 1]? fun x3 x4 =>
 asSl y58[y5.toNat * 6 + 1 + 1 + 1]? fun x5 x6 => asSl y58[y5.toNat * 6 + 1 + 1 + 1 + 1]? fun x7 x8 => asSl y58[y5.toNat * 6 + 1 + 1 + 1 + 1 + 1]? fun x9 x10 => bif y3 == 0 then need (O.R 0 75 [sl y1
 y2, agg [int .i64 x1, int .i64 x2, sl x3 x4, sl x5 x6, sl x7 x8, sl x9 x10]]) fun x11 => asTup (some x11) fun x12 => PI.asInt .i64 x12[0]? fun x13 => O.L 0 22 0 [true, true, true, false,
 true] [] m [(1, sl y1 y2), (5, ptr 0 0), (7, ptr 1 0), (8, ptr 2 0), (10, ptr 3 0), (11, int .i64 x13), (26, ref 9), (27, int .i64 y4), (28, int .i64 (i64.wrap (y5 + 1)))]
 [Ob.box 52 [int .i64 y6, int .i64 y7, sl y8 y9, sl y10 y11, sl y12 y13, sl y14 y15, int .i64 y16, bool y17, sl y18 y19, int .i64 y20] false, Ob.box 55 [int .i64 y21, int .i64
 y22, sl y23 y24, sl y25 y26, sl y27 y28, sl y29 y30] false, Ob.box 55 [int .i64 y31, int .i64 y32, sl y33 y34, sl y35 y36, sl y37 y38, sl y39 y40] false, Ob.box 59 [int .i64 y41,
 int .i64 y42, int .i64 y43, ref 4, ref 5, ref 6, ref 7, int .i64 y44, bool y45, ref 8, int .i64 y46] false, Ob.row 5 y47 y48 false, Ob.row 5 y49 y50 false, Ob.row 5 y51 y52 false,
 Ob.row 161 y53 y54 false, Ob.nrow [] 22 y55 y56, Ob.row 55 y57 y58 false] else O.L 0 22 0 [true, true, true, false, true] [] m [(1, sl y1 y2), (5, ptr 0 0), (7, ptr 1 0), (8, ptr 2 0), (10,
 ptr 3 0), (11, int .i64 y3), (26, ref 9), (27, int .i64 y4), (28, int .i64 (i64.wrap (y5 + 1)))] [Ob.box 52 [int .i64 y6, int .i64 y7, sl y8 y9, sl y10 y11, sl y12 y13,
 sl y14 y15, int .i64 y16, bool y17, sl y18 y19, int .i64 y20] false, Ob.box 55 [int .i64 y21, int .i64 y22, sl y23 y24, sl y25 y26, sl y27 y28, sl y29 y30] false, Ob.box 55
 [int .i64 y31, int .i64 y32, sl y33 y34, sl y35 y36, sl y37 y38, sl y39 y40] false, Ob.box 59 [int .i64 y41, int .i64 y42, int .i64 y43, ref 4, ref 5, ref 6, ref 7, int
 .i64 y44, bool y45, ref 8, int .i64 y46] false, Ob.row 5 y47 y48 false, Ob.row 5 y49 y50 false, Ob.row 5 y51 y52 false, Ob.row 161 y53 y54 false, Ob.nrow [] 22 y55 y56, Ob.row 55 y57 y58 false])
 else bif y3 != 0 then some (tup [int .i64 y3, int .i64 0, int .i64 0, osl 0 [], osl 0 [], osl 0 [], osl 0 [], int .i64 0, bool false, osl 0 [], int .i64 0]) else bif y21 != y31
 then some (tup [int .i64 1, int .i64 0, int .i64 0, osl 0 [], osl 0 [], osl 0 [], osl 0 [], int .i64 0, bool false, osl 0 [], int .i64 0]) else need (O.R 0 77 [agg [int
 .i64 y21, int .i64 y22, sl y23 y24, sl y25 y26, sl y27 y28]]) fun x14 => asTup (some x14) fun x15 => asSl x15[0]? fun x16 x17 => need (O.R 0 77 [agg [int .i64 y31, int .i64 y32, sl y33
 y34, sl y35 y36, sl y37 y38]]) fun x18 => asTup (some x18) fun x19 => asSl x19[0]? fun x20 x21 => need (O.R 0 76 [sl x16 x17, sl x20 x21]) fun x22 => asTup (some x22) fun x23 => PI.asBool
 x23[0]? fun x24 => bif x24 then some (tup [int .i64 1, int .i64 0, int .i64 0, osl 0 [], osl 0 [], osl 0 [], osl 0 [], int .i64 0, bool false, osl 0 [], int .i64 0]) else need
 (O.R 0 78 [agg [int .i64 y6, int .i64 y7, sl y8 y9, sl y10 y11, sl y12 y13, sl y14 y15, int .i64 y16, bool y17, sl y18 y19, int .i64 y20], sl y1 y2, agg [int .i64 y21,
 int .i64 y22, sl y23 y24, sl y25 y26, sl y27 y28, sl y29 y30]]) fun x25 => asTup (some x25) fun x26 => PI.asBool x26[0]? fun x27 => bif !x27 then some (tup [int .i64 6, int .i64 0,
 int .i64 0, osl 0 [], osl 0 [], osl 0 [], osl 0 [], int .i64 0, bool false, osl 0 [], int .i64 0]) else need (O.R 0 78 [agg [int .i64 y6, int .i64 y7, sl y8 y9, sl y10 y11,
 sl y12 y13, sl y14 y15, int .i64 y16, bool y17, sl y18 y19, int .i64 y20], sl y1 y2, agg [int .i64 y31, int .i64 y32, sl y33 y34, sl y35 y36, sl y37 y38, sl y39 y40]]) fun
 x28 => asTup (some x28) fun x29 => PI.asBool x29[0]? fun x30 => bif !x30 then some (tup [int .i64 6, int .i64 0, int .i64 0, osl 0 [], osl 0 [], osl 0 [], osl 0 [], int .i64 0,
 bool false, osl 0 [], int .i64 0]) else need (O.R 0 79 [agg [int .i64 y6, int .i64 y7, sl y8 y9, sl y10 y11, sl y12 y13, sl y14 y15, int .i64 y16, bool y17, sl y18 y19, int
 .i64 y20]]) fun x31 => asTup (some x31) fun x32 => PI.asInt .i64 x32[0]? fun x33 => PI.asInt .i64 x32[1]? fun x34 => asOsl x32[2]? fun x35 x36 => asOsl x32[3]? fun x37 x38 => asOsl x32[4]? fun x39 x40
 => asOsl x32[5]? fun x41 x42 => PI.asInt .i64 x32[6]? fun x43 => PI.asBool x32[7]? fun x44 => asOsl x32[8]? fun x45 x46 => PI.asInt .i64 x32[9]? fun x47 => must (false || x36.all flatV) (must (false
 || x38.all flatV) (must (false || x40.all flatV) (some (tup [int .i64 0, int .i64 x33, int .i64 x34, osl x35 x36, osl x37 x38, osl x39 x40, osl x41 x42, int .i64 x43, bool true,
 osl x45 x46, int .i64 x47]))))
theorem E22l1 (y1 y2 y3 y4 y5 y6 y7 y8 y9 y10 y11 y12 y13 y14 y15 y16 y17 y18 y19 y20 y21 y22 y23 y24 y25 y26 y27 y28 y29 y30) (y31
 : Int) (y32 : Int) (y33 : Nat) (y34 : List V) (y35 : Nat) (y36 : List V) (y37 : Nat) (y38 : List V) (y39 : Nat) (y40 : List V) (y41 : Int) (y42 : Int) (y43 : Int) (y44 : Int) (y45 : Bool) (y46 : Int)
 (y47 : Nat) (y48 : List V) (y49 : Nat) (y50 : List V) (y51 : Nat) (y52 : List V) (y53 : Nat) (y54 : List V) (y55 : Nat) (y56 : List V) (y57 : Nat) (y58 : List V) {r : V} (h : T22l1 (orcE C) 0 y1
 y2 y3 y4 y5 y6 y7 y8 y9 y10 y11 y12 y13 y14 y15 y16 y17 y18 y19 y20 y21 y22 y23 y24 y25 y26 y27 y28 y29 y30 y31 y32 y33 y34 y35 y36 y37 y38 y39 y40 y41 y42 y43 y44 y45 y46 y47 y48 y49 y50 y51 y52 y53
 y54 y55 y56 y57 y58 = some r) : loopE C 22 0 [true, true, true, false, true] [] [(1, sl y1 y2), (5, ptr 0 0), (7, ptr 1 0), (8, ptr 2 0), (10, ptr 3 0), (11, int .i64 y3), (26, ref 9),
 (27, int .i64 y4), (28, int .i64 y5)] [Ob.box 52 [int .i64 y6, int .i64 y7, sl y8 y9, sl y10 y11, sl y12 y13, sl y14 y15, int .i64 y16, bool y17, sl y18 y19, int .i64 y20]
 false, Ob.box 55 [int .i64 y21, int .i64 y22, sl y23 y24, sl y25 y26, sl y27 y28, sl y29 y30] false, Ob.box 55 [int .i64 y31, int .i64 y32, sl y33 y34, sl y35 y36, sl y37 y38,
 sl y39 y40] false, Ob.box 59 [int .i64 y41, int .i64 y42, int .i64 y43, ref 4, ref 5, ref 6, ref 7, int .i64 y44, bool y45, ref 8, int .i64 y46] false, Ob.row 5 y47 y48 false,
 Ob.row 5 y49 y50 false, Ob.row 5 y51 y52 false, Ob.row 161 y53 y54 false, Ob.nrow [] 22 y55 y56, Ob.row 55 y57 y58 false] = some r := ofL (j := 0) (F := fun s => T22l1 (orc C s.k) s.m y1 y2 y3
 y4 y5 y6 y7 y8 y9 y10 y11 y12 y13 y14 y15 y16 y17 y18 y19 y20 y21 y22 y23 y24 y25 y26 y27 y28 y29 y30 y31 y32 y33 y34 y35 y36 y37 y38 y39 y40 y41 y42 y43 y44 y45 y46 y47 y48 y49 y50 y51 y52 y53 y54
 y55 y56 y57 y58) (fs0 fun _ _ => by kernel_rfl) (by
  unfold T22l1
  repeat' first | (with_reducible first | intro _ | exact cC | apply cN cR | apply cT | apply cI | apply cM | apply cF | apply cB | apply cL | apply cO | apply cN cC | exact cR) | exact cD0 gM) h
def T29 (O : Orc) (k : Nat) (y1 y2 : Int) (y3 : Nat) (y4 : List V) (y5 : Nat) (y6 : List V) (y7 : Nat) (y8 : List V) (y9 : Nat) (y10 : List V) (y11 : Int) (y12 : Bool) (y13 : Nat) (y14 : List V) (y15 : Int) : Option V := need (O.R 0 96 [agg [int .i64 y1, int .i64 y2, sl y3 y4, sl y5 y6, sl y7 y8]]) fun x1 => asTup (some x1) fun x2 => PI.asInt .i64 x2[0]?
 fun x3 => bif x3 != 0 then some (tup [int .i64 x3]) else need (O.R 0 97 [sl y9 y10]) fun x4 => asTup (some x4) fun x5 => PI.asInt .i64 x5[0]? fun x6 => bif x6 != 0 then some (tup [int .i64
 x6]) else need (O.R 0 69 [sl y9 y10]) fun x7 => asTup (some x7) fun x8 => asSl x8[0]? fun x9 x10 => need (O.R 0 82 [sl y7 y8, sl x9 x10]) fun x11 => asTup (some x11) fun x12 => PI.asBool x12[0]?
 fun x13 => bif !x13 then some (tup [int .i64 1]) else need (O.R 0 98 [int .i64 y11, int .i64 1, int .i64 1099511627776]) fun x14 => asTup (some x14) fun x15 => PI.asBool x15[0]? fun x16 =>
 bif !x16 then some (tup [int .i64 3]) else bif decide ((↑y13 : Int) > 24) then some (tup [int .i64 2]) else bif (↑y13 : Int) == 0 then some (tup [int .i64 1]) else bif decide (y15 < 1)
 then some (tup [int .i64 1]) else bif decide (y15 > y1) then some (tup [int .i64 1]) else bif i64.wrap (i64.wrap (y15 + (↑y13 : Int)) - 1) != y1 then some (tup [int .i64
 1]) else O.L 0 29 0 [true, true, true, true, true, true, true, true, false, true] [] k [(1, ptr 0 0), (5, int .i64 (↑y13 : Int)), (6, int .i64 0)] [Ob.box 52 [int .i64 y1, int .i64 y2, sl
 y3 y4, sl y5 y6, sl y7 y8, sl y9 y10, int .i64 y11, bool y12, sl y13 y14, int .i64 y15] false]
theorem E29 (y1 y2 y3 y4 y5 y6 y7 y8 y9 y10 y11 y12 y13 y14 y15) {r
 : V} (h : T29 (orcE C) 0 y1 y2 y3 y4 y5 y6 y7 y8 y9 y10 y11 y12 y13 y14 y15 = some r) : runE C 29 [agg [int .i64 y1, int .i64 y2, sl y3 y4, sl y5 y6, sl y7 y8, sl y9 y10, int
 .i64 y11, bool y12, sl y13 y14, int .i64 y15]] = some r := ofR (j := 1) (F := fun s => T29 (orc C s.k) s.k y1 y2 y3 y4 y5 y6 y7 y8 y9 y10 y11 y12 y13 y14 y15) (fun _ => by kernel_rfl) (by
  unfold T29
  repeat' first | (with_reducible first | intro _ | exact cC | apply cN cR | apply cT | apply cI | apply cF | apply cB | apply cL | apply cN cC | exact cR) | exact cD0 gK) h
def T80 (O : Orc) (y1 y2 : Int) (y3 : Nat) (y4 : List V) (y5 : Nat) (y6 : List V) (y7 : Nat) (y8 : List V) (y9 : Nat) (y10 : List V) (y11 : Int) (y12 : Bool) (y13 : Nat) (y14 : List V) (y15 y16 : Int) : Option V := bif decide (y16 < 0) then some (tup [bool true]) else some (tup [bool (decide (y16 > i64.wrap (y2 + y11)))])
theorem E80 (y1 y2 y3 y4 y5 y6 y7 y8 y9 y10 y11 y12 y13 y14 y15 y16) {r : V} (h : T80 (orcE C) y1 y2 y3 y4 y5 y6 y7 y8 y9 y10 y11 y12 y13 y14 y15 y16 = some r) : runE C 80 [pin [int .i64 y1, int .i64 y2, sl y3 y4, sl y5 y6, sl y7 y8,
 sl y9 y10, int .i64 y11, bool y12, sl y13 y14, int .i64 y15] 0, int .i64 y16] = some r := ofR (j := 1) (F := fun s => T80 (orc C s.k) y1 y2 y3 y4 y5 y6 y7 y8 y9 y10 y11 y12 y13
 y14 y15 y16) (fun _ => by kernel_rfl) (by
  unfold T80
  repeat' first | (with_reducible first | intro _ | exact cC | apply cF)) h
def T81 (O : Orc) (k : Nat) (y1 : Nat) (y2 : List V) (y3 y4 : Int) (y5 : Nat) (y6 : List V) (y7 : Nat) (y8 : List V) (y9 : Nat) (y10 : List V) (y11 : Nat) (y12 : List V) :
 Option V := need (O.R 0 97 [sl y1 y2]) fun x1 => asTup (some x1) fun x2 => PI.asInt .i64 x2[0]? fun x3 => bif x3 != 0 then some (tup [int .i64 x3]) else need (O.R 0 96 [agg [int .i64 y3,
 int .i64 y4, sl y5 y6, sl y7 y8, sl y9 y10]]) fun x4 => asTup (some x4) fun x5 => PI.asInt .i64 x5[0]? fun x6 => bif x6 != 0 then some (tup [int .i64 x6]) else need (O.R 0 69 [sl y1 y2])
 fun x7 => asTup (some x7) fun x8 => asSl x8[0]? fun x9 x10 => need (O.R 0 82 [sl y7 y8, sl x9 x10]) fun x11 => asTup (some x11) fun x12 => PI.asBool x12[0]? fun x13 => bif !x13 then some (tup
 [int .i64 1]) else bif decide ((↑y11 : Int) > 5) then some (tup [int .i64 2]) else need (O.R 0 83 [agg [int .i64 y3, int .i64 y4, sl y5 y6, sl y7 y8, sl y9 y10]]) fun x14 => asTup
 (some x14) fun x15 => asSl x15[0]? fun x16 x17 => O.L 0 81 0 [true, true, true, true, true, true, false, true] [] k [(0, sl y1 y2), (3, ptr 0 0), (7, sl x16 x17), (8, int .i64 0)] [Ob.box 55
 [int .i64 y3, int .i64 y4, sl y5 y6, sl y7 y8, sl y9 y10, sl y11 y12] false]
theorem E81 (y1 y2 y3 y4 y5 y6 y7 y8 y9 y10 y11 y12) {r : V} (h : T81 (orcE C) 0 y1 y2
 y3 y4 y5 y6 y7 y8 y9 y10 y11 y12 = some r) : runE C 81 [sl y1 y2, agg [int .i64 y3, int .i64 y4, sl y5 y6, sl y7 y8, sl y9 y10, sl y11 y12]] = some r := ofR (j := 1) (F := fun s => T81 (orc C s.k) s.k y1 y2 y3 y4 y5 y6 y7 y8 y9 y10 y11 y12) (fun _ => by kernel_rfl) (by
  unfold T81
  repeat' first | (with_reducible first | intro _ | exact cC | apply cN cR | apply cT | apply cI | apply cF | apply cB | apply cL | apply cN cC | exact cR) | exact cD0 gK) h
def T83 (O : Orc) (y1 y2 : Int) (y3 : Nat) (y4 : List V) (y5 : Nat) (y6 : List V) (y7 : Nat) (y8 : List V) : Option V := need (O.R 0 96 [agg [int .i64 y1,
 int .i64 y2, sl y3 y4, sl y5 y6, sl y7 y8]]) fun x1 => asTup (some x1) fun x2 => PI.asInt .i64 x2[0]? fun x3 => bif x3 != 0 then some (tup [sl 0 []]) else need (O.R 0 142 [int .i64 y1])
 fun x4 => asTup (some x4) fun x5 => asSl x5[0]? fun x6 x7 => need (O.R 0 142 [int .i64 y2]) fun x8 => asTup (some x8) fun x9 => asSl x9[0]? fun x10 x11 => need (O.R 0 143 [sl 5 [sl x6 x7, sl
 x10 x11, sl y3 y4, sl y5 y6, sl y7 y8]]) fun x12 => asTup (some x12) fun x13 => asOsl x13[0]? fun x14 x15 => need (O.R 0 138 [str { data := #[(98 : UInt8), (102 : UInt8), (116 : UInt8)] },
 sl x14 x15]) fun x16 => asTup (some x16) fun x17 => asOsl x17[0]? fun x18 x19 => some (tup [sl x18 x19])
theorem E83 (y1 y2 y3 y4 y5 y6 y7 y8) {r : V} (h : T83 (orcE C) y1 y2 y3 y4 y5 y6 y7 y8 = some r) : runE C 83 [agg
 [int .i64 y1, int .i64 y2, sl y3 y4, sl y5 y6, sl y7 y8]] = some r := ofR (j := 1) (F := fun s => T83 (orc C s.k) y1 y2 y3 y4 y5 y6 y7 y8) (fun _ => by kernel_rfl) (by
  unfold T83
  repeat' first | (with_reducible first | intro _ | exact cC | apply cN cR | apply cT | apply cI | apply cF | apply cL | apply cO | apply cN cC | exact cR)) h
def T82 (O : Orc) (y1 : Nat) (y2 : List V) (y3 : Nat) (y4 : List V) : Option V := need (O.R 0 154 [sl y1 y2, sl y3 y4]) fun x1 => asTup (some x1) fun x2 => PI.asInt
 .i64 x2[0]? fun x3 => some (tup [bool (x3 == 0)])
theorem E82 (y1 y2 y3 y4) {r : V} (h : T82 (orcE C) y1 y2 y3 y4 = some r) : runE C 82 [sl y1 y2, sl y3 y4] = some r := ofR (j := 1) (F := fun s => T82 (orc C s.k) y1 y2 y3 y4) (fun _ => by kernel_rfl) (by
  unfold T82
  repeat' first | (with_reducible first | intro _ | exact cC | apply cN cR | apply cT | apply cI | apply cN cC | exact cR)) h
def T84 (O : Orc) (y1 : Nat) (y2 : List V) (y3 y4 : Int) (y5 : Nat) (y6 : List V) (y7 : Nat) (y8 : List V) (y9 : Nat) (y10 : List V) (y11 : Nat) (y12 : List V) :
 Option V := need (O.R 0 81 [sl y1 y2, agg [int .i64 y3, int .i64 y4, sl y5 y6, sl y7 y8, sl y9 y10, sl y11 y12]]) fun x1 => asTup (some x1) fun x2 => PI.asInt .i64 x2[0]? fun x3 => bif
 x3 == 0 then need (O.R 0 155 [sl y1 y2, agg [int .i64 y3, int .i64 y4, sl y5 y6, sl y7 y8, sl y9 y10, sl y11 y12]]) fun x4 => asTup (some x4) fun x5 => PI.asInt .i64 x5[0]? fun x6 =>
 need (O.R 0 156 [sl y1 y2]) fun x7 => asTup (some x7) fun x8 => PI.asInt .i64 x8[0]? fun x9 => some (tup [bool (decide (i64.wrap (3 * x6) > i64.wrap (2 * x9)))]) else some (tup
 [bool false])
theorem E84 (y1 y2 y3 y4 y5 y6 y7 y8 y9 y10 y11 y12) {r : V} (h : T84 (orcE C) y1 y2
 y3 y4 y5 y6 y7 y8 y9 y10 y11 y12 = some r) : runE C 84 [sl y1 y2, agg [int .i64 y3, int .i64 y4, sl y5 y6, sl y7 y8, sl y9 y10, sl y11 y12]] = some r := ofR (j := 1) (F := fun s => T84 (orc C s.k) y1 y2 y3 y4 y5 y6 y7 y8 y9 y10 y11 y12) (fun _ => by kernel_rfl) (by
  unfold T84
  repeat' first | (with_reducible first | intro _ | exact cC | apply cN cR | apply cT | apply cI | apply cF | apply cN cC | exact cR)) h
def T85 (O : Orc) (y1 y2 : Int) (y3 : Nat) (y4 : List V) (y5 : Nat) (y6 : List V) (y7 : Nat) (y8 : List V) (y9 : Nat) (y10 : List V) (y11 : Int) (y12 : Bool) (y13 : Nat) (y14 : List V) (y15 : Int) (y16 : Nat) (y17 : List V) (y18 y19 : Int) (y20 : Nat) (y21 : List V) (y22 : Nat) (y23 : List V) (y24 : Nat) (y25 : List V) (y26 : Nat) (y27 : List V) :
 Option V := need (O.R 0 157 [sl y16 y17, sl y9 y10, agg [int .i64 y18, int .i64 y19, sl y20 y21, sl y22 y23, sl y24 y25, sl y26 y27]]) fun x1 => asTup (some x1) fun x2 => PI.asInt
 .i64 x2[0]? fun x3 => need (O.R 0 156 [sl y9 y10]) fun x4 => asTup (some x4) fun x5 => PI.asInt .i64 x5[0]? fun x6 => some (tup [bool (decide (i64.wrap (3 * x3) > x6))])
theorem E85 (y1 y2 y3 y4 y5 y6 y7 y8 y9 y10 y11 y12 y13 y14 y15 y16 y17 y18 y19 y20 y21 y22 y23 y24 y25 y26 y27) {r : V} (h : T85 (orcE C) y1 y2
 y3 y4 y5 y6 y7 y8 y9 y10 y11 y12 y13 y14 y15 y16 y17 y18 y19 y20 y21 y22 y23 y24 y25 y26 y27 = some r) : runE C 85 [pin [int .i64 y1, int .i64 y2, sl y3 y4, sl y5 y6, sl y7 y8, sl y9
 y10, int .i64 y11, bool y12, sl y13 y14, int .i64 y15] 0, sl y16 y17, agg [int .i64 y18, int .i64 y19, sl y20 y21, sl y22 y23, sl y24 y25, sl y26 y27]] = some r := ofR (j := 1)
 (F := fun s => T85 (orc C s.k) y1 y2 y3 y4 y5 y6 y7 y8 y9 y10 y11 y12 y13 y14 y15 y16 y17 y18 y19 y20 y21 y22 y23 y24 y25 y26 y27) (fun _ => by kernel_rfl) (by
  unfold T85
  repeat' first | (with_reducible first | intro _ | exact cC | apply cN cR | apply cT | apply cI | apply cN cC | exact cR)) h
def T86 (O : Orc) (y1 y2 : Int) (y3 : Nat) (y4 : List V) (y5 : Nat) (y6 : List V) (y7 : Nat) (y8 : List V) (y9 : Nat) (y10 : List V) (y11 : Int) (y12 : Bool) (y13 : Nat) (y14 : List V) (y15 : Int) : Option V := need (O.R 0 144 [agg [int .i64 y1, int .i64 y2, sl y3 y4, sl y5 y6, sl y7 y8]]) fun x1 => asTup (some x1) fun x2 => PI.asInt .i64
 x2[0]? fun x3 => PI.asInt .i64 x2[1]? fun x4 => asOsl x2[2]? fun x5 x6 => asOsl x2[3]? fun x7 x8 => asOsl x2[4]? fun x9 x10 => need (O.R 0 158 [sl y9 y10]) fun x11 => asTup (some x11) fun x12 =>
 asOsl x12[0]? fun x13 x14 => need (O.R 0 159 [sl y13 y14]) fun x15 => asTup (some x15) fun x16 => asOsl x16[0]? fun x17 x18 => must (false || x6.all flatV) (must (false || x8.all flatV) (must (false
 || x10.all flatV) (some (tup [int .i64 x3, int .i64 x4, osl x5 x6, osl x7 x8, osl x9 x10, osl x13 x14, int .i64 y11, bool y12, osl x17 x18, int .i64 y15]))))
theorem E86 (y1 y2 y3 y4 y5 y6 y7 y8 y9 y10 y11 y12 y13 y14 y15) {r
 : V} (h : T86 (orcE C) y1 y2 y3 y4 y5 y6 y7 y8 y9 y10 y11 y12 y13 y14 y15 = some r) : runE C 86 [agg [int .i64 y1, int .i64 y2, sl y3 y4, sl y5 y6, sl y7 y8, sl y9 y10, int
 .i64 y11, bool y12, sl y13 y14, int .i64 y15]] = some r := ofR (j := 1) (F := fun s => T86 (orc C s.k) y1 y2 y3 y4 y5 y6 y7 y8 y9 y10 y11 y12 y13 y14 y15) (fun _ => by kernel_rfl) (by
  unfold T86
  repeat' first | (with_reducible first | intro _ | exact cC | apply cN cR | apply cT | apply cI | apply cM | apply cO | apply cN cC | exact cR)) h
def T87 (O : Orc) (y1 y2 : Int) (y3 : Nat) (y4 : List V) (y5 : Nat) (y6 : List V) (y7 : Nat) (y8 : List V) (y9 : Nat) (y10 : List V) (y11 : Int) : Option V :=
 need (O.R 0 31 [agg [int .i64 y1, int .i64 y2, sl y3 y4, sl y5 y6, sl y7 y8, sl y9 y10, int .i64 y11, bool false, sl 1 [sl y3 y4], int .i64 y1]]) fun x1 => asTup (some x1) fun
 x2 => PI.asInt .i64 x2[0]? fun x3 => bif x3 != 0 then some (tup [int .i64 x3, int .i64 0, int .i64 0, osl 0 [], osl 0 [], osl 0 [], osl 0 [], int .i64 0, bool false, osl 0 [],
 int .i64 0]) else need (O.R 0 79 [agg [int .i64 y1, int .i64 y2, sl y3 y4, sl y5 y6, sl y7 y8, sl y9 y10, int .i64 y11, bool false, sl 1 [sl y3 y4], int .i64 y1]]) fun x4 =>
 asTup (some x4) fun x5 => PI.asInt .i64 x5[0]? fun x6 => PI.asInt .i64 x5[1]? fun x7 => asOsl x5[2]? fun x8 x9 => asOsl x5[3]? fun x10 x11 => asOsl x5[4]? fun x12 x13 => asOsl x5[5]? fun x14 x15 =>
 PI.asInt .i64 x5[6]? fun x16 => PI.asBool x5[7]? fun x17 => asOsl x5[8]? fun x18 x19 => PI.asInt .i64 x5[9]? fun x20 => must (false || x9.all flatV) (must (false || x11.all flatV) (must (false ||
 x13.all flatV) (some (tup [int .i64 0, int .i64 x6, int .i64 x7, osl x8 x9, osl x10 x11, osl x12 x13, osl x14 x15, int .i64 x16, bool x17, osl x18 x19, int .i64 x20]))))
theorem E87 (y1 y2 y3 y4 y5 y6 y7 y8 y9 y10 y11) {r : V} (h : T87 (orcE C) y1 y2 y3 y4 y5 y6 y7
 y8 y9 y10 y11 = some r) : runE C 87 [agg [int .i64 y1, int .i64 y2, sl y3 y4, sl y5 y6, sl y7 y8], sl y9 y10, int .i64 y11] = some r := ofR (j := 1) (F := fun s => T87 (orc C s.k) y1 y2 y3 y4 y5 y6 y7 y8 y9 y10 y11) (fun _ => by kernel_rfl) (by
  unfold T87
  repeat' first | (with_reducible first | intro _ | exact cC | apply cN cR | apply cT | apply cI | apply cM | apply cF | apply cB | apply cO | apply cN cC | exact cR)) h
def T88 (O : Orc) (y1 y2 : Int) (y3 : Nat) (y4 : List V) (y5 : Nat) (y6 : List V) (y7 : Nat) (y8 : List V) (y9 : Nat) (y10 : List V) (y11 : Int) (y12 : Bool) (y13 : Nat) (y14 : List V) (y15 y16 : Int) : Option V := need (O.R 0 31 [agg [int .i64 y1, int .i64 y2, sl y3 y4, sl y5 y6, sl y7 y8, sl y9 y10, int .i64 y11, bool y12, sl
 y13 y14, int .i64 y15]]) fun x1 => asTup (some x1) fun x2 => PI.asInt .i64 x2[0]? fun x3 => bif x3 != 0 then some (tup [int .i64 x3]) else bif y12 then some (tup [int .i64 9]) else need (O.R
 0 74 [agg [int .i64 y1, int .i64 y2, sl y3 y4, sl y5 y6, sl y7 y8, sl y9 y10, int .i64 y11, bool y12, sl y13 y14, int .i64 y15], int .i64 y16]) fun x4 => asTup (some x4) fun x5
 => PI.asBool x5[0]? fun x6 => bif x6 then some (tup [int .i64 10]) else some (tup [int .i64 0])
theorem E88 (y1 y2 y3 y4 y5 y6 y7 y8 y9 y10 y11 y12 y13 y14 y15 y16) {r : V} (h : T88 (orcE C) y1 y2 y3 y4 y5 y6 y7 y8 y9 y10 y11 y12 y13 y14 y15 y16 = some r) : runE C 88 [agg [int .i64 y1, int .i64 y2, sl y3 y4, sl y5 y6, sl y7 y8,
 sl y9 y10, int .i64 y11, bool y12, sl y13 y14, int .i64 y15], int .i64 y16] = some r := ofR (j := 1) (F := fun s => T88 (orc C s.k) y1 y2 y3 y4 y5 y6 y7 y8 y9 y10 y11 y12 y13
 y14 y15 y16) (fun _ => by kernel_rfl) (by
  unfold T88
  repeat' first | (with_reducible first | intro _ | exact cC | apply cN cR | apply cT | apply cI | apply cF | apply cB | apply cN cC | exact cR)) h
def T75 (O : Orc) (k : Nat) (y1 : Nat) (y2 : List V) (y3 y4 : Int) (y5 : Nat) (y6 : List V) (y7 : Nat) (y8 : List V) (y9 : Nat) (y10 : List V) (y11 : Nat) (y12 : List V) :
 Option V := need (O.R 0 102 [sl y1 y2]) fun x1 => asTup (some x1) fun x2 => PI.asInt .i64 x2[0]? fun x3 => bif x3 != 0 then some (tup [int .i64 x3]) else need (O.R 0 101 [agg [int .i64 y3,
 int .i64 y4, sl y5 y6, sl y7 y8, sl y9 y10]]) fun x4 => asTup (some x4) fun x5 => PI.asInt .i64 x5[0]? fun x6 => bif x6 != 0 then some (tup [int .i64 x6]) else need (O.R 0 103 [sl y1
 y2]) fun x7 => asTup (some x7) fun x8 => asSl x8[0]? fun x9 x10 => need (O.R 0 76 [sl y7 y8, sl x9 x10]) fun x11 => asTup (some x11) fun x12 => PI.asBool x12[0]? fun x13 => bif !x13 then some
 (tup [int .i64 1]) else bif decide ((↑y11 : Int) > 5) then some (tup [int .i64 2]) else need (O.R 0 77 [agg [int .i64 y3, int .i64 y4, sl y5 y6, sl y7 y8, sl y9 y10]]) fun x14 =>
 asTup (some x14) fun x15 => asSl x15[0]? fun x16 x17 => O.L 0 75 1 [true, true, true, true, true, false, true] [] k [(0, sl y1 y2), (7, int .i64 (-1)), (8, sl x16 x17), (39, sl y11 y12), (40,
 int .i64 (↑y11 : Int)), (41, int .i64 0)] []
theorem E75 (y1 y2 y3 y4 y5 y6 y7 y8 y9 y10 y11 y12) {r : V} (h : T75 (orcE C) 0 y1 y2
 y3 y4 y5 y6 y7 y8 y9 y10 y11 y12 = some r) : runE C 75 [sl y1 y2, agg [int .i64 y3, int .i64 y4, sl y5 y6, sl y7 y8, sl y9 y10, sl y11 y12]] = some r := ofR (j := 1) (F := fun s => T75 (orc C s.k) s.k y1 y2 y3 y4 y5 y6 y7 y8 y9 y10 y11 y12) (fun _ => by kernel_rfl) (by
  unfold T75
  repeat' first | (with_reducible first | intro _ | exact cC | apply cN cR | apply cT | apply cI | apply cF | apply cB | apply cL | apply cN cC | exact cR) | exact cD0 gK) h
def T89 (O : Orc) (y1 y2 : Int) (y3 : Nat) (y4 : List V) (y5 : Nat) (y6 : List V) (y7 : Nat) (y8 : List V) (y9 : Nat) (y10 : List V) (y11 : Int) (y12 : Bool) (y13 : Nat) (y14 : List V) (y15 y16 y17 : Int) (y18 : Nat) (y19 : List V) (y20 : Nat) (y21 : List V) (y22 : Nat) (y23 : List V) (y24 : Bool) (y25 : Int) : Option V := bif !y24 then
 some (tup [int .i64 3]) else bif decide (y17 ≤ y2) then some (tup [int .i64 3]) else bif decide (y17 > y25) then some (tup [int .i64 3]) else some (tup [int .i64 0])
theorem E89 (y1 y2 y3 y4 y5 y6 y7 y8 y9 y10 y11 y12 y13 y14 y15 y16 y17 y18 y19 y20 y21 y22 y23 y24 y25) {r : V} (h : T89 (orcE C) y1 y2 y3 y4 y5 y6 y7 y8 y9 y10 y11
 y12 y13 y14 y15 y16 y17 y18 y19 y20 y21 y22 y23 y24 y25 = some r) : runE C 89 [agg [int .i64 y1, int .i64 y2, sl y3 y4, sl y5 y6, sl y7 y8, sl y9 y10, int .i64 y11, bool y12, sl
 y13 y14, int .i64 y15], agg [int .i64 y16, int .i64 y17, sl y18 y19, sl y20 y21, sl y22 y23], bool y24, int .i64 y25] = some r := ofR (j := 1) (F := fun s => T89 (orc C s.k) y1 y2 y3 y4 y5 y6 y7 y8 y9 y10 y11 y12 y13 y14 y15 y16 y17 y18 y19 y20 y21 y22 y23 y24 y25) (fun _ => by kernel_rfl) (by
  unfold T89
  repeat' first | (with_reducible first | intro _ | exact cC | apply cF)) h
def T90 (O : Orc) (y1 : Nat) (y2 : List V) (y3 y4 : Int) (y5 : Nat) (y6 : List V) (y7 : Nat) (y8 : List V) (y9 : Nat) (y10 : List V) (y11 : Nat) (y12 : List V) :
 Option V := need (O.R 0 160 [sl y1 y2, agg [int .i64 y3, int .i64 y4, sl y5 y6, sl y7 y8, sl y9 y10, sl y11 y12]]) fun x1 => asTup (some x1) fun x2 => PI.asInt .i64 x2[0]? fun x3 =>
 need (O.R 0 149 [sl y1 y2]) fun x4 => asTup (some x4) fun x5 => PI.asInt .i64 x5[0]? fun x6 => some (tup [bool (decide (i64.wrap (3 * x3) > i64.wrap (2 * x6)))])
theorem E90 (y1 y2 y3 y4 y5 y6 y7 y8 y9 y10 y11 y12) {r : V} (h : T90 (orcE C) y1 y2
 y3 y4 y5 y6 y7 y8 y9 y10 y11 y12 = some r) : runE C 90 [sl y1 y2, agg [int .i64 y3, int .i64 y4, sl y5 y6, sl y7 y8, sl y9 y10, sl y11 y12]] = some r := ofR (j := 1) (F := fun s => T90 (orc C s.k) y1 y2 y3 y4 y5 y6 y7 y8 y9 y10 y11 y12) (fun _ => by kernel_rfl) (by
  unfold T90
  repeat' first | (with_reducible first | intro _ | exact cC | apply cN cR | apply cT | apply cI | apply cN cC | exact cR)) h
def T91 (O : Orc) (k : Nat) (y1 y2 : Int) (y3 : Nat) (y4 : List V) (y5 : Nat) (y6 : List V) (y7 : Nat) (y8 : List V) (y9 : Nat) (y10 : List V) (y11 : Int) (y12 : Bool) (y13 : Nat) (y14 : List V) (y15 y16 y17 : Int) (y18 : Nat) (y19 : List V) (y20 : Nat) (y21 : List V) (y22 : Nat) (y23 : List V) (y24 : Nat) (y25 : List V) : Option V := need (O.R 0 102
 [sl y24 y25]) fun x1 => asTup (some x1) fun x2 => PI.asInt .i64 x2[0]? fun x3 => bif x3 != 0 then some (tup [int .i64 x3, int .i64 0, int .i64 0, osl 0 [], osl 0 [], osl 0 [], osl 0
 [], int .i64 0, bool false, osl 0 [], int .i64 0]) else need (O.R 0 103 [sl y24 y25]) fun x4 => asTup (some x4) fun x5 => asSl x5[0]? fun x6 x7 => need (O.R 0 76 [sl y22 y23, sl x6 x7])
 fun x8 => asTup (some x8) fun x9 => PI.asBool x9[0]? fun x10 => bif !x10 then some (tup [int .i64 1, int .i64 0, int .i64 0, osl 0 [], osl 0 [], osl 0 [], osl 0 [], int .i64 0,
 bool false, osl 0 [], int .i64 0]) else need (O.R 0 161 [sl y13 y14]) fun x11 => asTup (some x11) fun x12 => asOsl x12[0]? fun x13 x14 => O.L 0 91 0 [true, true, true, true, true, true, false,
 true] [] k [(4, ptr 0 0), (6, ptr 1 0), (8, ptr 7 0), (51, int .i64 (if 24 < i64.wrap (i64.wrap (y16 - y1) - 1) then 24 else i64.wrap (i64.wrap (y16 - y1) -
 1))), (52, int .i64 0)] [Ob.box 48 [int .i64 y16, int .i64 y17, sl y18 y19, sl y20 y21, sl y22 y23] false, Ob.box 59 [int .i64 0, int .i64 0, int .i64 0, ref 2, ref 3, ref 4,
 ref 5, int .i64 0, bool false, ref 6, int .i64 0] false, Ob.row 5 0 [] false, Ob.row 5 0 [] false, Ob.row 5 0 [] false, Ob.row 161 0 [] false, Ob.nrow [] 22 0 [], Ob.box 52 [int .i64 y16,
 int .i64 y17, sl y18 y19, sl y20 y21, sl y22 y23, sl y24 y25, int .i64 y11, bool false, ref 8, int .i64 (i64.wrap (i64.wrap (y16 - if 24 < i64.wrap
 (i64.wrap (y16 - y1) - 1) then 24 else i64.wrap (i64.wrap (y16 - y1) - 1)) - (↑x13 : Int)))] false, Ob.row 22 x13 x14 false]
theorem E91 (y1 y2 y3 y4 y5 y6 y7 y8 y9 y10 y11 y12 y13 y14 y15 y16 y17 y18 y19 y20 y21 y22 y23 y24 y25) {r : V} (h : T91 (orcE C) 0 y1 y2 y3 y4 y5 y6 y7 y8 y9 y10 y11
 y12 y13 y14 y15 y16 y17 y18 y19 y20 y21 y22 y23 y24 y25 = some r) : runE C 91 [agg [int .i64 y1, int .i64 y2, sl y3 y4, sl y5 y6, sl y7 y8, sl y9 y10, int .i64 y11, bool y12, sl
 y13 y14, int .i64 y15], agg [int .i64 y16, int .i64 y17, sl y18 y19, sl y20 y21, sl y22 y23], sl y24 y25] = some r := ofR (j := 1) (F := fun s => T91 (orc C s.k) s.k y1 y2 y3
 y4 y5 y6 y7 y8 y9 y10 y11 y12 y13 y14 y15 y16 y17 y18 y19 y20 y21 y22 y23 y24 y25) (fun _ => by kernel_rfl) (by
  unfold T91
  repeat' first | (with_reducible first | intro _ | exact cC | apply cN cR | apply cT | apply cI | apply cF | apply cB | apply cL | apply cO | apply cN cC | exact cR) | exact cD0 gK) h
def T92 (O : Orc) (y1 y2 : Int) (y3 : Nat) (y4 : List V) (y5 : Nat) (y6 : List V) (y7 : Nat) (y8 : List V) (y9 : Nat) (y10 : List V) (y11 : Int) (y12 : Bool) (y13 : Nat) (y14 : List V) (y15 y16 : Int) (y17 : Nat) (y18 : List V) (y19 y20 : Int) (y21 : Nat) (y22 : List V) : Option V := bif y12 then some (tup [int .i64 9]) else need (O.R 0
 109 [agg [int .i64 y1, int .i64 y2, sl y3 y4, sl y5 y6, sl y7 y8, sl y9 y10, int .i64 y11, bool y12, sl y13 y14, int .i64 y15], int .i64 y16]) fun x1 => asTup (some x1) fun x2
 => asSl x2[0]? fun x3 x4 => PI.asBool x2[1]? fun x5 => bif !x5 then some (tup [int .i64 4]) else need (O.R 0 162 [sl x3 x4, sl y17 y18, agg [int .i64 y19, int .i64 y20, sl y21 y22]])
 fun x6 => asTup (some x6) fun x7 => PI.asBool x7[0]? fun x8 => bif !x8 then some (tup [int .i64 6]) else some (tup [int .i64 0])
theorem E92 (y1 y2 y3 y4 y5 y6 y7 y8 y9 y10 y11 y12 y13 y14 y15 y16 y17 y18 y19 y20 y21 y22) {r : V} (h : T92 (orcE C) y1 y2 y3 y4 y5 y6 y7 y8 y9 y10 y11 y12 y13 y14 y15 y16 y17 y18 y19 y20 y21
 y22 = some r) : runE C 92 [agg [int .i64 y1, int .i64 y2, sl y3 y4, sl y5 y6, sl y7 y8, sl y9 y10, int .i64 y11, bool y12, sl y13 y14, int .i64 y15], int .i64 y16, sl y17
 y18, agg [int .i64 y19, int .i64 y20, sl y21 y22]] = some r := ofR (j := 1) (F := fun s => T92 (orc C s.k) y1 y2 y3 y4 y5 y6 y7 y8 y9 y10 y11 y12 y13 y14 y15 y16 y17 y18 y19 y20
 y21 y22) (fun _ => by kernel_rfl) (by
  unfold T92
  repeat' first | (with_reducible first | intro _ | exact cC | apply cN cR | apply cT | apply cF | apply cB | apply cL | apply cN cC | exact cR)) h
def T66l1 (O : Orc) (m : Nat) (y1 : Nat) (y2 : List V) (y3 : Nat) (y4 : List V) (y5 : Int) (y6 : Nat) (y7 : List V) (y8 y9 y10 y11 : Int) (y12 : Bool) (y13
 : Int) (y14 : Nat) (y15 : List V) (y16 : Nat) (y17 : List V) (y18 : Nat) (y19 : List V) (y20 : Nat) (y21 : List V) (y22 : Nat) (y23 : List V) (y24 : Nat) (y25 : List V) (y26 : Nat) (y27 : List V) (y28
 : Nat) (y29 : List V) : Option V := bif decide (y5 > 0) then need (O.W 0 41 [] [ptr 0 0, int .i64 4] [Ob.box 142 [sl y6 y7, int .i64 y8] false]) fun x1 => asTup (some x1) fun x2 => PI.asInt
 .i64 x2[0]? fun x3 => asSl x2[1]? fun x4 x5 => PI.asInt .i64 x2[2]? fun x6 => need (O.W 0 70 [] [ptr 0 0, int .i64 (i64.wrap (1 + x3))] [Ob.box 142 [sl x4 x5, int .i64 x6] false]) fun
 x7 => asTup (some x7) fun x8 => asSl x8[0]? fun x9 x10 => asSl x8[1]? fun x11 x12 => PI.asInt .i64 x8[2]? fun x13 => must (true && (y28 + 1).ble 140737488355328 && ((y28 + 1) * 24).ble
 140737488355328) (O.X 0 66 [] [Ob.box 142 [V.u, V.u] false] 0 [true, true, true, true, false, true] [] m [(0, ptr 0 0), (2, ptr 1 0), (4, sl y1 y2), (5, sl y3 y4), (6, ref 9), (7, int .i64
 (i64.wrap (y5 - 1)))] [Ob.box 142 [sl x11 x12, int .i64 x13] false, Ob.box 106 [int .i64 y9, int .i64 y10, ref 2, ref 3, ref 4, ref 5, int .i64 y11, bool y12, ref 6,
 int .i64 y13, ref 7, ref 8] false, Ob.row 5 y14 y15 false, Ob.row 5 y16 y17 false, Ob.row 5 y18 y19 false, Ob.row 161 y20 y21 false, Ob.nrow [] 22 y22 y23, Ob.nrow [] 22 y24 y25, Ob.nrow [] 22
 y26 y27, Ob.row 22 (y28 + 1) (y29 ++ [sl x9 x10]) false]) else need (O.W 0 41 [] [ptr 0 0, int .i64 4] [Ob.box 142 [sl y6 y7, int .i64 y8] false]) fun x14 => asTup (some x14) fun x15 =>
 PI.asInt .i64 x15[0]? fun x16 => asSl x15[1]? fun x17 x18 => PI.asInt .i64 x15[2]? fun x19 => need (O.W 0 41 [] [ptr 0 0, int .i64 20] [Ob.box 142 [sl x17 x18, int .i64 x19] false]) fun x20 =>
 asTup (some x20) fun x21 => PI.asInt .i64 x21[0]? fun x22 => asSl x21[1]? fun x23 x24 => PI.asInt .i64 x21[2]? fun x25 => need (O.R 0 68 [sl y28 y29]) fun x26 => asTup (some x26) fun x27 => asOsl
 x27[0]? fun x28 x29 => need (O.W 0 70 [] [ptr 0 0, int .i64 32] [Ob.box 142 [sl x23 x24, int .i64 x25] false]) fun x30 => asTup (some x30) fun x31 => asSl x31[0]? fun x32 x33 => asSl x31[1]?
 fun x34 x35 => PI.asInt .i64 x31[2]? fun x36 => need (O.R 0 69 [sl y3 y4]) fun x37 => asTup (some x37) fun x38 => asSl x38[0]? fun x39 x40 => both (both (need (O.W 0 94 [] [ptr 0 0, sl 3 [int
 .i64 50, int .i64 20, int .i64 100]] [Ob.box 142 [sl x34 x35, int .i64 x36] false]) fun x41 => asTup (some x41) fun x42 => PI.asInt .i64 x42[0]? fun x43 => asSl x42[1]? fun x44 x45 => PI.asInt
 .i64 x42[2]? fun x46 => bif decide (i64.wrap (1 + x16) > 2) then need (O.W 0 40 [] [ptr 0 0, int .i64 2] [Ob.box 142 [sl x44 x45, int .i64 x46] false]) fun x47 => asTup (some x47) fun
 x48 => PI.asBool x48[0]? fun x49 => asSl x48[1]? fun x50 x51 => PI.asInt .i64 x48[2]? fun x52 => bif x49 then need (O.W 0 70 [] [ptr 0 0, int .i64 32] [Ob.box 142 [sl x50 x51, int .i64 x52]
 false]) fun x53 => asTup (some x53) fun x54 => asSl x54[0]? fun x55 x56 => asSl x54[1]? fun x57 x58 => PI.asInt .i64 x54[2]? fun x59 => need (O.W 0 40 [] [ptr 0 0, int .i64 8] [Ob.box 142 [sl
 x57 x58, int .i64 x59] false]) fun x60 => asTup (some x60) fun x61 => PI.asBool x61[0]? fun x62 => asSl x61[1]? fun x63 x64 => PI.asInt .i64 x61[2]? fun x65 => bif x62 then some (tup [int .i64
 (i64.wrap (1 + x16)), int .i64 x22, sl x28 x29, sl x32 x33, sl x39 x40, sl y3 y4, int .i64 x43, bool true, sl 3 [sl x55 x56, sl 0 [], sl x28 x29], int .i64
 (i64.wrap (i64.wrap (1 + x16) - 2)), sl y1 y2, sl y28 y29, sl x63 x64, int .i64 x65]) else some (tup [int .i64 (i64.wrap (1 + x16)), int .i64 x22, sl x28 x29,
 sl x32 x33, sl x39 x40, sl y3 y4, int .i64 x43, bool false, sl 3 [sl x55 x56, sl 0 [], sl x28 x29], int .i64 (i64.wrap (i64.wrap (1 + x16) - 2)), sl y1 y2, sl
 y28 y29, sl x63 x64, int .i64 x65]) else need (O.W 0 40 [] [ptr 0 0, int .i64 8] [Ob.box 142 [sl x50 x51, int .i64 x52] false]) fun x66 => asTup (some x66) fun x67 => PI.asBool x67[0]? fun
 x68 => asSl x67[1]? fun x69 x70 => PI.asInt .i64 x67[2]? fun x71 => bif x68 then some (tup [int .i64 (i64.wrap (1 + x16)), int .i64 x22, sl x28 x29, sl x32 x33, sl x39 x40, sl y3
 y4, int .i64 x43, bool true, sl 1 [sl x28 x29], int .i64 (i64.wrap (1 + x16)), sl y1 y2, sl y28 y29, sl x69 x70, int .i64 x71]) else some (tup [int .i64 (i64.wrap
 (1 + x16)), int .i64 x22, sl x28 x29, sl x32 x33, sl x39 x40, sl y3 y4, int .i64 x43, bool false, sl 1 [sl x28 x29], int .i64 (i64.wrap (1 + x16)), sl y1 y2, sl y28
 y29, sl x69 x70, int .i64 x71]) else need (O.W 0 40 [] [ptr 0 0, int .i64 8] [Ob.box 142 [sl x44 x45, int .i64 x46] false]) fun x72 => asTup (some x72) fun x73 => PI.asBool x73[0]? fun x74
 => asSl x73[1]? fun x75 x76 => PI.asInt .i64 x73[2]? fun x77 => bif x74 then some (tup [int .i64 (i64.wrap (1 + x16)), int .i64 x22, sl x28 x29, sl x32 x33, sl x39 x40, sl y3 y4,
 int .i64 x43, bool true, sl 1 [sl x28 x29], int .i64 (i64.wrap (1 + x16)), sl y1 y2, sl y28 y29, sl x75 x76, int .i64 x77]) else some (tup [int .i64 (i64.wrap (1
 + x16)), int .i64 x22, sl x28 x29, sl x32 x33, sl x39 x40, sl y3 y4, int .i64 x43, bool false, sl 1 [sl x28 x29], int .i64 (i64.wrap (1 + x16)), sl y1 y2, sl y28 y29,
 sl x75 x76, int .i64 x77])) (need (O.W 0 94 [] [ptr 0 0, sl 3 [int .i64 50, int .i64 20, int .i64 100]] [Ob.box 142 [sl x34 x35, int .i64 x36] false]) fun x78 => asTup (some x78) fun
 x79 => PI.asInt .i64 x79[0]? fun x80 => asSl x79[1]? fun x81 x82 => PI.asInt .i64 x79[2]? fun x83 => bif decide (i64.wrap (1 + x16) > 2) then need (O.W 0 40 [] [ptr 0 0, int .i64 2]
 [Ob.box 142 [sl x81 x82, int .i64 x83] false]) fun x84 => asTup (some x84) fun x85 => PI.asBool x85[0]? fun x86 => asSl x85[1]? fun x87 x88 => PI.asInt .i64 x85[2]? fun x89 => bif x86 then need
 (O.W 0 70 [] [ptr 0 0, int .i64 32] [Ob.box 142 [sl x87 x88, int .i64 x89] false]) fun x90 => asTup (some x90) fun x91 => asSl x91[0]? fun x92 x93 => asSl x91[1]? fun x94 x95 => PI.asInt .i64
 x91[2]? fun x96 => need (O.W 0 40 [] [ptr 0 0, int .i64 8] [Ob.box 142 [sl x94 x95, int .i64 x96] false]) fun x97 => asTup (some x97) fun x98 => PI.asBool x98[0]? fun x99 => asSl x98[1]? fun
 x100 x101 => PI.asInt .i64 x98[2]? fun x102 => bif x99 then some (tup [int .i64 (i64.wrap (1 + x16)), int .i64 x22, sl x28 x29, sl x32 x33, sl x39 x40, sl y3 y4, int .i64 x80,
 bool true, sl 3 [sl x92 x93, sl 0 [], sl x28 x29], int .i64 (i64.wrap (i64.wrap (1 + x16) - 2)), sl y1 y2, sl y28 y29, sl x100 x101, int .i64 x102]) else some
 (tup [int .i64 (i64.wrap (1 + x16)), int .i64 x22, sl x28 x29, sl x32 x33, sl x39 x40, sl y3 y4, int .i64 x80, bool false, sl 3 [sl x92 x93, sl 0 [], sl x28 x29],
 int .i64 (i64.wrap (i64.wrap (1 + x16) - 2)), sl y1 y2, sl y28 y29, sl x100 x101, int .i64 x102]) else need (O.W 0 40 [] [ptr 0 0, int .i64 8] [Ob.box 142 [sl x87 x88,
 int .i64 x89] false]) fun x103 => asTup (some x103) fun x104 => PI.asBool x104[0]? fun x105 => asSl x104[1]? fun x106 x107 => PI.asInt .i64 x104[2]? fun x108 => bif x105 then some (tup [int .i64
 (i64.wrap (1 + x16)), int .i64 x22, sl x28 x29, sl x32 x33, sl x39 x40, sl y3 y4, int .i64 x80, bool true, sl 1 [sl x28 x29], int .i64 (i64.wrap (1 + x16)), sl y1
 y2, sl y28 y29, sl x106 x107, int .i64 x108]) else some (tup [int .i64 (i64.wrap (1 + x16)), int .i64 x22, sl x28 x29, sl x32 x33, sl x39 x40, sl y3 y4, int .i64 x80,
 bool false, sl 1 [sl x28 x29], int .i64 (i64.wrap (1 + x16)), sl y1 y2, sl y28 y29, sl x106 x107, int .i64 x108]) else need (O.W 0 40 [] [ptr 0 0, int .i64 8] [Ob.box 142
 [sl x81 x82, int .i64 x83] false]) fun x109 => asTup (some x109) fun x110 => PI.asBool x110[0]? fun x111 => asSl x110[1]? fun x112 x113 => PI.asInt .i64 x110[2]? fun x114 => bif x111 then some
 (tup [int .i64 (i64.wrap (1 + x16)), int .i64 x22, sl x28 x29, sl x32 x33, sl x39 x40, sl y3 y4, int .i64 x80, bool true, sl 1 [sl x28 x29], int .i64 (i64.wrap
 (1 + x16)), sl y1 y2, sl y28 y29, sl x112 x113, int .i64 x114]) else some (tup [int .i64 (i64.wrap (1 + x16)), int .i64 x22, sl x28 x29, sl x32 x33, sl x39 x40, sl y3 y4,
 int .i64 x80, bool false, sl 1 [sl x28 x29], int .i64 (i64.wrap (1 + x16)), sl y1 y2, sl y28 y29, sl x112 x113, int .i64 x114]))) (need (O.W 0 94 [] [ptr 0 0, sl 3 [int
 .i64 50, int .i64 20, int .i64 100]] [Ob.box 142 [sl x34 x35, int .i64 x36] false]) fun x115 => asTup (some x115) fun x116 => PI.asInt .i64 x116[0]? fun x117 => asSl x116[1]? fun x118 x119 =>
 PI.asInt .i64 x116[2]? fun x120 => bif decide (i64.wrap (1 + x16) > 2) then need (O.W 0 40 [] [ptr 0 0, int .i64 2] [Ob.box 142 [sl x118 x119, int .i64 x120] false]) fun x121 => asTup
 (some x121) fun x122 => PI.asBool x122[0]? fun x123 => asSl x122[1]? fun x124 x125 => PI.asInt .i64 x122[2]? fun x126 => bif x123 then need (O.W 0 70 [] [ptr 0 0, int .i64 32] [Ob.box 142 [sl
 x124 x125, int .i64 x126] false]) fun x127 => asTup (some x127) fun x128 => asSl x128[0]? fun x129 x130 => asSl x128[1]? fun x131 x132 => PI.asInt .i64 x128[2]? fun x133 => need (O.W 0 40 [] [ptr
 0 0, int .i64 8] [Ob.box 142 [sl x131 x132, int .i64 x133] false]) fun x134 => asTup (some x134) fun x135 => PI.asBool x135[0]? fun x136 => asSl x135[1]? fun x137 x138 => PI.asInt .i64 x135[2]?
 fun x139 => bif x136 then some (tup [int .i64 (i64.wrap (1 + x16)), int .i64 x22, sl x28 x29, sl x32 x33, sl x39 x40, sl y3 y4, int .i64 x117, bool true, sl 3 [sl x129
 x130, sl 0 [], sl x28 x29], int .i64 (i64.wrap (i64.wrap (1 + x16) - 2)), sl y1 y2, sl y28 y29, sl x137 x138, int .i64 x139]) else some (tup [int .i64
 (i64.wrap (1 + x16)), int .i64 x22, sl x28 x29, sl x32 x33, sl x39 x40, sl y3 y4, int .i64 x117, bool false, sl 3 [sl x129 x130, sl 0 [], sl x28 x29], int .i64
 (i64.wrap (i64.wrap (1 + x16) - 2)), sl y1 y2, sl y28 y29, sl x137 x138, int .i64 x139]) else need (O.W 0 40 [] [ptr 0 0, int .i64 8] [Ob.box 142 [sl x124 x125, int
 .i64 x126] false]) fun x140 => asTup (some x140) fun x141 => PI.asBool x141[0]? fun x142 => asSl x141[1]? fun x143 x144 => PI.asInt .i64 x141[2]? fun x145 => bif x142 then some (tup [int .i64
 (i64.wrap (1 + x16)), int .i64 x22, sl x28 x29, sl x32 x33, sl x39 x40, sl y3 y4, int .i64 x117, bool true, sl 1 [sl x28 x29], int .i64 (i64.wrap (1 + x16)), sl
 y1 y2, sl y28 y29, sl x143 x144, int .i64 x145]) else some (tup [int .i64 (i64.wrap (1 + x16)), int .i64 x22, sl x28 x29, sl x32 x33, sl x39 x40, sl y3 y4, int .i64 x117,
 bool false, sl 1 [sl x28 x29], int .i64 (i64.wrap (1 + x16)), sl y1 y2, sl y28 y29, sl x143 x144, int .i64 x145]) else need (O.W 0 40 [] [ptr 0 0, int .i64 8] [Ob.box 142
 [sl x118 x119, int .i64 x120] false]) fun x146 => asTup (some x146) fun x147 => PI.asBool x147[0]? fun x148 => asSl x147[1]? fun x149 x150 => PI.asInt .i64 x147[2]? fun x151 => bif x148 then some
 (tup [int .i64 (i64.wrap (1 + x16)), int .i64 x22, sl x28 x29, sl x32 x33, sl x39 x40, sl y3 y4, int .i64 x117, bool true, sl 1 [sl x28 x29], int .i64 (i64.wrap
 (1 + x16)), sl y1 y2, sl y28 y29, sl x149 x150, int .i64 x151]) else some (tup [int .i64 (i64.wrap (1 + x16)), int .i64 x22, sl x28 x29, sl x32 x33, sl x39 x40, sl y3 y4,
 int .i64 x117, bool false, sl 1 [sl x28 x29], int .i64 (i64.wrap (1 + x16)), sl y1 y2, sl y28 y29, sl x149 x150, int .i64 x151]))
theorem E66l1 (y1 y2 y3 y4 y5 y6 y7 y8 y9 y10 y11 y12 y13 y14 y15 y16 y17 y18 y19 y20 y21 y22 y23 y24 y25 y26 y27 y28 y29) {r : V} (h
 : T66l1 (orcE C) 0 y1 y2 y3 y4 y5 y6 y7 y8 y9 y10 y11 y12 y13 y14 y15 y16 y17 y18 y19 y20 y21 y22 y23 y24 y25 y26 y27 y28 y29 = some r) : loopWE C 66 [] [Ob.box 142 [V.u, V.u] false] 0 [true,
 true, true, true, false, true] [] [(0, ptr 0 0), (2, ptr 1 0), (4, sl y1 y2), (5, sl y3 y4), (6, ref 9), (7, int .i64 y5)] [Ob.box 142 [sl y6 y7, int .i64 y8] false, Ob.box 106 [int
 .i64 y9, int .i64 y10, ref 2, ref 3, ref 4, ref 5, int .i64 y11, bool y12, ref 6, int .i64 y13, ref 7, ref 8] false, Ob.row 5 y14 y15 false, Ob.row 5 y16 y17 false, Ob.row 5 y18
 y19 false, Ob.row 161 y20 y21 false, Ob.nrow [] 22 y22 y23, Ob.nrow [] 22 y24 y25, Ob.nrow [] 22 y26 y27, Ob.row 22 y28 y29 false] = some r := ofX (j := 0) (F := fun s => T66l1 (orc C s.k) s.m
 y1 y2 y3 y4 y5 y6 y7 y8 y9 y10 y11 y12 y13 y14 y15 y16 y17 y18 y19 y20 y21 y22 y23 y24 y25 y26 y27 y28 y29) (fs0 fun _ _ => by kernel_rfl) (by
  unfold T66l1
  repeat' first | (with_reducible first | intro _ | exact cC | apply cN cR | apply cN cQ | apply cT | apply cI | apply cM | apply cF | apply cB | apply cL | apply cO | apply cN cC | apply cW | exact cR | exact cQ) | exact cX0 gM) h
def T67l1 (O : Orc) (m : Nat) (y1 y2 y3 : Int) (y4 : Nat) (y5 : List V) (y6 : Int) (y7 : Nat) (y8 : List V) (y9 : Nat) (y10 : List V) : Option V := bif decide (y3
 < y1) then must (true && (y7 + 1).ble 140737488355328 && ((y7 + 1) * 24).ble 140737488355328) (need (O.R 0 137 [sl 1 [int .u8 (u8.wrap (i64.wrap (y2 + y3)))]]) fun x1 => asTup
 (some x1) fun x2 => asOsl x2[0]? fun x3 x4 => need (O.R 0 68 [sl x3 (bareL x4)]) fun x5 => asTup (some x5) fun x6 => asOsl x6[0]? fun x7 x8 => need (O.W 0 41 [] [ptr 0 0, int .i64 4] [Ob.box 142
 [sl y4 y5, int .i64 y6] false]) fun x9 => asTup (some x9) fun x10 => PI.asInt .i64 x10[0]? fun x11 => asSl x10[1]? fun x12 x13 => PI.asInt .i64 x10[2]? fun x14 => must (true && (y9 + 1).ble
 140737488355328 && ((y9 + 1) * 32).ble 140737488355328) (O.X 0 67 [] [Ob.box 142 [V.u, V.u] false] 0 [true, true, true, false, true] [] m [(0, ptr 0 0), (1, int .i64 y1), (2, int .i64 y2), (8,
 ref 1), (9, ref 2), (10, int .i64 (i64.wrap (y3 + 1)))] [Ob.box 142 [sl x12 x13, int .i64 x14] false, Ob.row 22 (y7 + 1) (y8 ++ [sl 1 [int .u8 (u8.wrap (i64.wrap
 (y2 + y3)))]]) false, Ob.row 161 (y9 + 1) (y10 ++ [sl x7 x8, int .i64 (i64.wrap (1 + x11))]) false])) else some (tup [sl y7 y8, sl y9 y10, sl y4 y5, int .i64 y6])
theorem E67l1 (y1 y2 y3 y4 y5 y6 y7 y8 y9 y10) {r : V} (h : T67l1 (orcE C) 0 y1 y2 y3 y4 y5 y6 y7 y8 y9 y10
 = some r) : loopWE C 67 [] [Ob.box 142 [V.u, V.u] false] 0 [true, true, true, false, true] [] [(0, ptr 0 0), (1, int .i64 y1), (2, int .i64 y2), (8, ref 1), (9, ref 2), (10, int .i64 y3)]
 [Ob.box 142 [sl y4 y5, int .i64 y6] false, Ob.row 22 y7 y8 false, Ob.row 161 y9 y10 false] = some r := ofX (j := 0) (F := fun s => T67l1 (orc C s.k) s.m y1 y2 y3 y4 y5 y6 y7 y8 y9 y10)
 (fs0 fun _ _ => by kernel_rfl) (by
  unfold T67l1
  repeat' first | (with_reducible first | intro _ | exact cC | apply cN cR | apply cN cQ | apply cT | apply cI | apply cM | apply cF | apply cL | apply cO | apply cN cC | exact cR | exact cQ) | exact cX0 gM) h
def T138 (O : Orc) (y1 : ByteArray) (y2 : Nat) (y3 : List V) : Option V := must (y1.size.ble 140737488355328) (must (decide ((bytesV y1.data.toList).length = y1.size *
 1)) (must (true && (1 + y1.size).ble 140737488355328 && ((1 + y1.size) * 1).ble 140737488355328) (must (decide (y3.length = y2 * 1)) (must (true && (1 + y1.size + y2).ble 140737488355328 && ((1 +
 y1.size + y2) * 1).ble 140737488355328) (need (O.R 0 186 [sl (1 + y1.size + y2) (int .u8 (u8.wrap ((↑y1.size : Int).tmod 256)) :: bytesV y1.data.toList ++ y3)]) fun x1 => asTup (some x1)
 fun x2 => asOsl x2[0]? fun x3 x4 => must (false || x4.all flatV) (some (tup [osl x3 x4])))))))
theorem E138 (y1 y2 y3) {r : V} (h : T138 (orcE C) y1 y2 y3 = some r) : runE C 138 [str y1, sl y2 y3] = some r := ofR (j := 1) (F := fun s => T138 (orc C s.k) y1 y2 y3) (fun _ => by kernel_rfl) (by
  unfold T138
  repeat' first | (with_reducible first | intro _ | exact cC | apply cN cR | apply cT | apply cM | apply cO | apply cN cC | exact cR)) h
def T139 (O : Orc) (y1 : Nat) (y2 : List V) : Option V := need (O.R 0 138 [str { data := #[(108 : UInt8), (101 : UInt8), (97 : UInt8), (102 : UInt8)] }, sl y1 y2])
 fun x1 => asTup (some x1) fun x2 => asOsl x2[0]? fun x3 x4 => must (false || x4.all flatV) (some (tup [osl x3 x4]))
theorem E139 (y1 y2) {r : V} (h : T139 (orcE C) y1 y2 = some r) : runE C 139 [sl y1 y2] = some r := ofR (j := 1) (F := fun s => T139 (orc C s.k) y1 y2) (fun _ =>
 by kernel_rfl) (by
  unfold T139
  repeat' first | (with_reducible first | intro _ | exact cC | apply cN cR | apply cT | apply cM | apply cO | apply cN cC | exact cR)) h
def T140 (O : Orc) (k : Nat) (y1 : Int) : Option V := O.L 0 140 0 [true, true, false] [] k [(0, int .i64 y1), (3, int .i64 1)] []
theorem E140 (y1) {r : V} (h : T140 (orcE C) 0 y1 = some r) : runE C 140 [int .i64 y1] = some r := ofR (j := 1) (F := fun s => T140 (orc C s.k) s.k y1) (fun _ => by kernel_rfl) (by
  unfold T140
  repeat' first | with_reducible exact cC | exact cD0 gK) h
def T141 (O : Orc) (y1 : Nat) (y2 : List V) (y3 : Nat) (y4 : List V) : Option V := must (decide (y2.length = y1 * 1)) (must (true && (0 + y1).ble 140737488355328 && ((0
 + y1) * 1).ble 140737488355328) (must (decide (y4.length = y3 * 1)) (must (true && (0 + y1 + y3).ble 140737488355328 && ((0 + y1 + y3) * 1).ble 140737488355328) (need (O.R 0 138 [str { data :=
 #[(110 : UInt8), (111 : UInt8), (100 : UInt8), (101 : UInt8)] }, sl (0 + y1 + y3) (y2 ++ y4)]) fun x1 => asTup (some x1) fun x2 => asOsl x2[0]? fun x3 x4 => must (false || x4.all flatV) (some (tup
 [osl x3 x4]))))))
theorem E141 (y1 y2 y3 y4) {r : V} (h : T141 (orcE C) y1 y2 y3 y4 = some r) : runE C 141 [sl y1 y2, sl y3 y4] = some r := ofR (j := 1) (F := fun s =>
 T141 (orc C s.k) y1 y2 y3 y4) (fun _ => by kernel_rfl) (by
  unfold T141
  repeat' first | (with_reducible first | intro _ | exact cC | apply cN cR | apply cT | apply cM | apply cO | apply cN cC | exact cR)) h
def T69l1 (O : Orc) (m : Nat) (y1 : Nat) (y2 : List V) (y3 : Int) (y4 : Nat) (y5 : List V) : Option V := bif decide (y3 < (↑y1 : Int)) then must (inB y3 y1) (must (decide
 (y3.toNat * 2 + 0 < y2.length)) (must (inB y3 y1) (PI.asInt .i64 y2[y3.toNat * 2 + 1]? fun x1 => need (O.R 0 142 [int .i64 x1]) fun x2 => asTup (some x2) fun x3 => asSl x3[0]? fun x4 x5 => asSl
 y2[y3.toNat * 2 + 0]? fun x6 x7 => must (true && (y4 + 2).ble 140737488355328 && ((y4 + 2) * 24).ble 140737488355328) (O.L 0 69 0 [true, true, false, true] [] m [(0, sl y1 y2), (3, ref 0), (4,
 int .i64 (i64.wrap (y3 + 1)))] [Ob.row 22 (y4 + 2) (y5 ++ [sl x6 x7, sl x4 x5]) false])))) else need (O.R 0 143 [sl y4 y5]) fun x8 => asTup (some x8) fun x9 => asOsl x9[0]? fun x10 x11
 => need (O.R 0 138 [str { data := #[(115 : UInt8), (101 : UInt8), (116 : UInt8)] }, sl x10 x11]) fun x12 => asTup (some x12) fun x13 => asOsl x13[0]? fun x14 x15 => some (tup [sl x14 x15])
theorem E69l1 (y1 y2 y3 y4 y5) {r : V} (h : T69l1 (orcE C) 0 y1 y2 y3 y4 y5 = some r) : loopE C 69 0 [true, true, false, true] [] [(0, sl y1 y2), (3,
 ref 0), (4, int .i64 y3)] [Ob.row 22 y4 y5 false] = some r := ofL (j := 0) (F := fun s => T69l1 (orc C s.k) s.m y1 y2 y3 y4 y5) (fs0 fun _ _ => by kernel_rfl) (by
  unfold T69l1
  repeat' first | (with_reducible first | intro _ | exact cC | apply cN cR | apply cT | apply cI | apply cM | apply cF | apply cL | apply cO | apply cN cC | exact cR) | exact cD0 gM) h
def T70l1 (O : Orc) (m : Nat) (y1 : Int) (y2 : Nat) (y3 : List V) (y4 : Int) (y5 : Nat) (y6 : List V) : Option V := bif decide (y1 > 0) then need (O.W 0 41 [] [ptr 0 0, int
 .i64 256] [Ob.box 142 [sl y2 y3, int .i64 y4] false]) fun x1 => asTup (some x1) fun x2 => PI.asInt .i64 x2[0]? fun x3 => asSl x2[1]? fun x4 x5 => PI.asInt .i64 x2[2]? fun x6 => must (true && (y5 +
 1).ble 140737488355328 && ((y5 + 1) * 1).ble 140737488355328) (O.X 0 70 [] [Ob.box 142 [V.u, V.u] false] 0 [true, true, false] [] m [(0, ptr 0 0), (1, int .i64 (i64.wrap (y1 - 1))), (5,
 ref 1)] [Ob.box 142 [sl x4 x5, int .i64 x6] false, Ob.row 5 (y5 + 1) (y6 ++ [int .u8 (u8.wrap x3)]) false]) else some (tup [sl y5 y6, sl y2 y3, int .i64 y4])
theorem E70l1 (y1 y2 y3 y4 y5 y6) {r : V} (h : T70l1 (orcE C) 0 y1 y2 y3 y4 y5 y6 = some r) : loopWE C 70 [] [Ob.box 142 [V.u, V.u] false] 0
 [true, true, false] [] [(0, ptr 0 0), (1, int .i64 y1), (5, ref 1)] [Ob.box 142 [sl y2 y3, int .i64 y4] false, Ob.row 5 y5 y6 false] = some r := ofX (j := 0) (F := fun s => T70l1 (orc C s.k) s.m y1 y2 y3 y4 y5 y6) (fs0 fun _ _ => by kernel_rfl) (by
  unfold T70l1
  repeat' first | (with_reducible first | intro _ | exact cC | apply cN cQ | apply cT | apply cI | apply cM | apply cF | apply cL | apply cN cC | exact cQ) | exact cX0 gM) h
def T72l1 (O : Orc) (m : Nat) (y1 y2 : Int) (y3 : Nat) (y4 : List V) (y5 : Int) (y6 : Nat) (y7 : List V) : Option V := bif decide (y2 < y1) then need (O.W 0 40 [] [ptr 0
 0, int .i64 4] [Ob.box 142 [sl y3 y4, int .i64 y5] false]) fun x1 => asTup (some x1) fun x2 => PI.asBool x2[0]? fun x3 => asSl x2[1]? fun x4 x5 => PI.asInt .i64 x2[2]? fun x6 => bif !x3 then
 must (true && (y6 + 1).ble 140737488355328 && ((y6 + 1) * 8).ble 140737488355328) (O.X 0 72 [] [Ob.box 142 [V.u, V.u] false] 0 [true, true, false, true] [] m [(0, ptr 0 0), (1, int .i64 y1), (5,
 ref 1), (6, int .i64 (i64.wrap (y2 + 1)))] [Ob.box 142 [sl x4 x5, int .i64 x6] false, Ob.row 2 (y6 + 1) (y7 ++ [int .i64 y2]) false]) else O.X 0 72 [] [Ob.box 142 [V.u, V.u] false] 0
 [true, true, false, true] [] m [(0, ptr 0 0), (1, int .i64 y1), (5, ref 1), (6, int .i64 (i64.wrap (y2 + 1)))] [Ob.box 142 [sl x4 x5, int .i64 x6] false, Ob.row 2 y6 y7 false] else
 some (tup [sl y6 y7, sl y3 y4, int .i64 y5])
theorem E72l1 (y1 y2 y3 y4 y5 y6 y7) {r : V} (h : T72l1 (orcE C) 0 y1 y2 y3 y4 y5 y6 y7 = some r) : loopWE C 72 [] [Ob.box 142 [V.u,
 V.u] false] 0 [true, true, false, true] [] [(0, ptr 0 0), (1, int .i64 y1), (5, ref 1), (6, int .i64 y2)] [Ob.box 142 [sl y3 y4, int .i64 y5] false, Ob.row 2 y6 y7 false] = some r := ofX
 (j := 0) (F := fun s => T72l1 (orc C s.k) s.m y1 y2 y3 y4 y5 y6 y7) (fs0 fun _ _ => by kernel_rfl) (by
  unfold T72l1
  repeat' first | (with_reducible first | intro _ | exact cC | apply cN cQ | apply cT | apply cI | apply cM | apply cF | apply cB | apply cL | apply cN cC | exact cQ) | exact cX0 gM) h
def T144 (O : Orc) (y1 y2 : Int) (y3 : Nat) (y4 : List V) (y5 : Nat) (y6 : List V) (y7 : Nat) (y8 : List V) : Option V := must (decide (y4.length = y3 * 1))
 (must (true && (0 + y3).ble 140737488355328 && ((0 + y3) * 1).ble 140737488355328) (must (decide (y6.length = y5 * 1)) (must (true && (0 + y5).ble 140737488355328 && ((0 + y5) * 1).ble
 140737488355328) (must (decide (y8.length = y7 * 1)) (must (true && (0 + y7).ble 140737488355328 && ((0 + y7) * 1).ble 140737488355328) (must (false || y4.all flatV) (must (false || y6.all flatV)
 (must (false || y8.all flatV) (some (tup [int .i64 y1, int .i64 y2, osl (0 + y3) y4, osl (0 + y5) y6, osl (0 + y7) y8]))))))))))
theorem E144 (y1 y2 y3 y4 y5 y6 y7 y8) {r : V} (h : T144 (orcE C) y1 y2 y3 y4 y5 y6 y7 y8 = some r) : runE C 144 [agg
 [int .i64 y1, int .i64 y2, sl y3 y4, sl y5 y6, sl y7 y8]] = some r := ofR (j := 1) (F := fun s => T144 (orc C s.k) y1 y2 y3 y4 y5 y6 y7 y8) (fun _ => by kernel_rfl) (by
  unfold T144
  repeat' first | (with_reducible first | intro _ | exact cC | apply cM)) h
def T71l1 (O : Orc) (m : Nat) (y1 : Nat) (y2 : List V) (y3 : Nat) (y4 : List V) (y5 : Int) (y6 : Nat) (y7 : List V) (y8 y9 y10 : Int) (y11 : Nat) (y12 : List V) (y13 : Nat) (y14 : List V) (y15 : Nat) (y16 : List V) (y17 : Nat) (y18 : List V) (y19 y20 : Int) (y21 : Nat) (y22 : List V) (y23 : Nat) (y24 : List V) (y25 : Nat) (y26 : List V) (y27 : Nat) (y28 : List V) : Option V := bif decide (y8 < (↑y3 : Int)) then must (inB y8 y3) (PI.asInt .i64 y4[y8.toNat * 1]? fun x1 => must (inB y8 y3) (PI.asInt .i64 y4[y8.toNat * 1]? fun x2 => must (inB x2 y1)
 (must (decide (x2.toNat * 1 < y2.length)) (asSl y2[x2.toNat * 1]? fun x3 x4 => need (O.R 0 145 [sl x3 x4, int .i64 y5, sl y6 y7]) fun x5 => asTup (some x5) fun x6 => PI.asInt .i64 x6[0]? fun x7
 => asOsl x6[1]? fun x8 x9 => PI.asInt .i64 x6[2]? fun x10 => PI.asInt .i64 x6[3]? fun x11 => asOsl x6[4]? fun x12 x13 => must (true && (y27 + 1).ble 140737488355328 && ((y27 + 1) * 80).ble
 140737488355328) (O.L 0 71 0 [true, true, true, false, true] [] m [(0, sl y1 y2), (1, sl y3 y4), (2, int .i64 y5), (8, ptr 0 0), (9, ptr 5 0), (10, sl y6 y7), (11, int .i64
 (i64.wrap (y8 + 1)))] [Ob.box 55 [int .i64 y9, int .i64 y10, ref 1, ref 2, ref 3, ref 4] false, Ob.row 5 y11 y12 false, Ob.row 5 y13 y14 false, Ob.row 5 y15 y16 false, Ob.nrow []
 170 y17 y18, Ob.box 55 [int .i64 y19, int .i64 y20, ref 6, ref 7, ref 8, ref 9] false, Ob.row 5 y21 y22 false, Ob.row 5 y23 y24 false, Ob.row 5 y25 y26 false, Ob.nrow [] 170 (y27 + 1) (y28
 ++ [int .i64 x1, int .i64 x7, own true 22 1 x8 x9, int .i64 x10, int .i64 x11, own true 22 1 x12 x13])]))))) else some (tup [int .i64 y19, int .i64 y20, sl y21 y22, sl y23 y24,
 sl y25 y26, sl y27 (bareL y28)])
theorem E71l1 (y1 y2 y3 y4 y5 y6 y7 y8 y9 y10 y11 y12 y13 y14 y15 y16 y17 y18 y19 y20 y21 y22 y23 y24 y25 y26 y27 y28) {r : V} (h : T71l1 (orcE
 C) 0 y1 y2 y3 y4 y5 y6 y7 y8 y9 y10 y11 y12 y13 y14 y15 y16 y17 y18 y19 y20 y21 y22 y23 y24 y25 y26 y27 y28 = some r) : loopE C 71 0 [true, true, true, false, true] [] [(0, sl y1 y2), (1, sl
 y3 y4), (2, int .i64 y5), (8, ptr 0 0), (9, ptr 5 0), (10, sl y6 y7), (11, int .i64 y8)] [Ob.box 55 [int .i64 y9, int .i64 y10, ref 1, ref 2, ref 3, ref 4] false, Ob.row 5 y11
 y12 false, Ob.row 5 y13 y14 false, Ob.row 5 y15 y16 false, Ob.nrow [] 170 y17 y18, Ob.box 55 [int .i64 y19, int .i64 y20, ref 6, ref 7, ref 8, ref 9] false, Ob.row 5 y21 y22 false, Ob.row
 5 y23 y24 false, Ob.row 5 y25 y26 false, Ob.nrow [] 170 y27 y28] = some r := ofL (j := 0) (F := fun s => T71l1 (orc C s.k) s.m y1 y2 y3 y4 y5 y6 y7 y8 y9 y10 y11 y12 y13 y14 y15 y16 y17 y18
 y19 y20 y21 y22 y23 y24 y25 y26 y27 y28) (fs0 fun _ _ => by kernel_rfl) (by
  unfold T71l1
  repeat' first | (with_reducible first | intro _ | exact cC | apply cN cR | apply cT | apply cI | apply cM | apply cF | apply cL | apply cO | apply cN cC | exact cR) | exact cD0 gM) h
def T94 (O : Orc) (y1 : Nat) (y2 : List V) (y3 : Nat) (y4 : List V) (y5 : Int) : Option V := need (O.W 0 41 [] [ptr 0 0, int .i64 (↑y1 : Int)] [Ob.box 142 [sl y3
 y4, int .i64 y5] false]) fun x1 => asTup (some x1) fun x2 => PI.asInt .i64 x2[0]? fun x3 => asSl x2[1]? fun x4 x5 => PI.asInt .i64 x2[2]? fun x6 => must (inB x3 y1) (PI.asInt .i64 y2[x3.toNat * 1]?
 fun x7 => some (tup [int .i64 x7, sl x4 x5, int .i64 x6]))
theorem E94 (y1 y2 y3 y4 y5) {r : V} (h : T94 (orcE C) y1 y2 y3 y4 y5 = some r) : runWE C 94 [] [ptr 0 0, sl y1 y2] [Ob.box 142 [sl y3 y4,
 int .i64 y5] false] = some r := ofW (j := 1) (F := fun s => T94 (orc C s.k) y1 y2 y3 y4 y5) (fun _ => by kernel_rfl) (by
  unfold T94
  repeat' first | (with_reducible first | intro _ | exact cC | apply cN cQ | apply cT | apply cI | apply cM | apply cL | apply cN cC | exact cQ)) h
def T101 (O : Orc) (y1 y2 : Int) (y3 : Nat) (y4 : List V) (y5 : Nat) (y6 : List V) (y7 : Nat) (y8 : List V) : Option V := need (O.R 0 128 [sl 3 [sl y3 y4,
 sl y5 y6, sl y7 y8]]) fun x1 => asTup (some x1) fun x2 => PI.asBool x2[0]? fun x3 => bif !x3 then some (tup [int .i64 1]) else need (O.R 0 51 [int .i64 y1, int .i64 1, int .i64 1000000])
 fun x4 => asTup (some x4) fun x5 => PI.asBool x5[0]? fun x6 => bif !x6 then some (tup [int .i64 3]) else need (O.R 0 51 [int .i64 y2, int .i64 0, int .i64 1099511627776]) fun x7 => asTup
 (some x7) fun x8 => PI.asBool x8[0]? fun x9 => bif !x9 then some (tup [int .i64 3]) else some (tup [int .i64 0])
theorem E101 (y1 y2 y3 y4 y5 y6 y7 y8) {r : V} (h : T101 (orcE C) y1 y2 y3 y4 y5 y6 y7 y8 = some r) : runE C 101 [agg
 [int .i64 y1, int .i64 y2, sl y3 y4, sl y5 y6, sl y7 y8]] = some r := ofR (j := 1) (F := fun s => T101 (orc C s.k) y1 y2 y3 y4 y5 y6 y7 y8) (fun _ => by kernel_rfl) (by
  unfold T101
  repeat' first | (with_reducible first | intro _ | exact cC | apply cN cR | apply cT | apply cF | apply cB | apply cN cC | exact cR)) h
def T102 (O : Orc) (k : Nat) (y1 : Nat) (y2 : List V) : Option V := bif (↑y1 : Int) == 0 then some (tup [int .i64 4]) else bif decide ((↑y1 : Int) > 5) then some (tup [int
 .i64 2]) else O.L 0 102 1 [true, true, false, true] [] k [(0, sl y1 y2), (13, sl y1 y2), (14, int .i64 (↑y1 : Int)), (15, int .i64 0)] []
theorem E102 (y1 y2) {r : V} (h : T102 (orcE C) 0 y1 y2 = some r) : runE C 102 [sl y1 y2] = some r := ofR (j := 1) (F := fun s => T102 (orc C s.k) s.k y1 y2) (fun _ =>
 by kernel_rfl) (by
  unfold T102
  repeat' first | (with_reducible first | intro _ | exact cC | apply cF) | exact cD0 gK) h
def T103 (O : Orc) (k : Nat) (y1 : Nat) (y2 : List V) : Option V := O.L 0 103 0 [true, true, false, true] [] k [(3, ref 0), (7, sl y1 y2), (8, int .i64 (↑y1 : Int)), (9,
 int .i64 0)] [Ob.row 22 0 [] false]
theorem E103 (y1 y2) {r : V} (h : T103 (orcE C) 0 y1 y2 = some r) : runE C 103 [sl y1 y2] = some r := ofR (j := 1) (F := fun s => T103 (orc C s.k) s.k y1 y2) (fun _ =>
 by kernel_rfl) (by
  unfold T103
  repeat' first | with_reducible exact cC | exact cD0 gK) h
def T76 (O : Orc) (y1 : Nat) (y2 : List V) (y3 : Nat) (y4 : List V) : Option V := must (y2.length.beq y1 && y2.all isU8) (must (y4.length.beq y3 && y4.all isU8) (some
 (tup [bool (strEq (packB y2) (packB y4))])))
theorem E76 (y1 y2 y3 y4) {r : V} (h : T76 (orcE C) y1 y2 y3 y4 = some r) : runE C 76 [sl y1 y2, sl y3 y4] = some r := ofR (j := 1) (F := fun s => T76 (orc C s.k) y1 y2 y3 y4) (fun _ => by kernel_rfl) (by
  unfold T76
  repeat' first | (with_reducible first | intro _ | exact cC | apply cM)) h
def T51 (O : Orc) (y1 y2 y3 : Int) : Option V := bif decide (y2 ≤ y1) then some (tup [bool (decide (y1 ≤ y3))]) else some (tup [bool false])
theorem E51 (y1 y2 y3) {r : V} (h : T51 (orcE C) y1 y2 y3 = some r) : runE C 51 [int .i64 y1, int .i64 y2, int .i64 y3] = some r := ofR (j := 1) (F := fun s => T51 (orc C s.k) y1 y2 y3) (fun _ => by kernel_rfl) (by
  unfold T51
  repeat' first | (with_reducible first | intro _ | exact cC | apply cF)) h
def T104 (O : Orc) (y1 : Nat) (y2 : List V) : Option V := need (O.R 0 167 [sl y1 y2, fn 105 []]) fun x1 => asTup (some x1) fun x2 => PI.asInt .i64 x2[0]? fun x3 =>
 some (tup [bool (decide (x3 ≥ 0))])
theorem E104 (y1 y2) {r : V} (h : T104 (orcE C) y1 y2 = some r) : runE C 104 [sl y1 y2, fn 105 []] = some r := ofR (j := 1) (F := fun s => T104 (orc C s.k) y1
 y2) (fun _ => by kernel_rfl) (by
  unfold T104
  repeat' first | (with_reducible first | intro _ | exact cC | apply cN cR | apply cT | apply cI | apply cN cC | exact cR)) h
def T77 (O : Orc) (y1 y2 : Int) (y3 : Nat) (y4 : List V) (y5 : Nat) (y6 : List V) (y7 : Nat) (y8 : List V) : Option V := need (O.R 0 133 [int .i64 y1]) fun x1
 => asTup (some x1) fun x2 => asSl x2[0]? fun x3 x4 => need (O.R 0 133 [int .i64 y2]) fun x5 => asTup (some x5) fun x6 => asSl x6[0]? fun x7 x8 => need (O.R 0 131 [sl 5 [sl x3 x4, sl x7 x8,
 sl y3 y4, sl y5 y6, sl y7 y8]]) fun x9 => asTup (some x9) fun x10 => asSl x10[0]? fun x11 x12 => need (O.R 0 147 [str { data := #[(98 : UInt8), (102 : UInt8), (116 : UInt8)] }, sl 1 [sl
 x11 x12]]) fun x13 => asTup (some x13) fun x14 => asOsl x14[0]? fun x15 x16 => some (tup [sl x15 x16])
theorem E77 (y1 y2 y3 y4 y5 y6 y7 y8) {r : V} (h : T77 (orcE C) y1 y2 y3 y4 y5 y6 y7 y8 = some r) : runE C 77 [agg
 [int .i64 y1, int .i64 y2, sl y3 y4, sl y5 y6, sl y7 y8]] = some r := ofR (j := 1) (F := fun s => T77 (orc C s.k) y1 y2 y3 y4 y5 y6 y7 y8) (fun _ => by kernel_rfl) (by
  unfold T77
  repeat' first | (with_reducible first | intro _ | exact cC | apply cN cR | apply cT | apply cL | apply cO | apply cN cC | exact cR)) h
def T78 (O : Orc) (y1 y2 : Int) (y3 : Nat) (y4 : List V) (y5 : Nat) (y6 : List V) (y7 : Nat) (y8 : List V) (y9 : Nat) (y10 : List V) (y11 : Int) (y12 : Bool) (y13 : Nat) (y14 : List V) (y15 : Int) (y16 : Nat) (y17 : List V) (y18 y19 : Int) (y20 : Nat) (y21 : List V) (y22 : Nat) (y23 : List V) (y24 : Nat) (y25 : List V) (y26 : Nat) (y27 : List V) :
 Option V := need (O.R 0 90 [sl y16 y17, agg [int .i64 y18, int .i64 y19, sl y20 y21, sl y22 y23, sl y24 y25, sl y26 y27]]) fun x1 => asTup (some x1) fun x2 => PI.asBool x2[0]? fun x3
 => bif x3 then need (O.R 0 148 [sl y16 y17, sl y9 y10, agg [int .i64 y18, int .i64 y19, sl y20 y21, sl y22 y23, sl y24 y25, sl y26 y27]]) fun x4 => asTup (some x4) fun x5 => PI.asInt
 .i64 x5[0]? fun x6 => need (O.R 0 149 [sl y9 y10]) fun x7 => asTup (some x7) fun x8 => PI.asInt .i64 x8[0]? fun x9 => some (tup [bool (decide (i64.wrap (3 * x6) > x9))]) else some (tup
 [bool false])
theorem E78 (y1 y2 y3 y4 y5 y6 y7 y8 y9 y10 y11 y12 y13 y14 y15 y16 y17 y18 y19 y20 y21 y22 y23 y24 y25 y26 y27) {r : V} (h : T78 (orcE C) y1 y2
 y3 y4 y5 y6 y7 y8 y9 y10 y11 y12 y13 y14 y15 y16 y17 y18 y19 y20 y21 y22 y23 y24 y25 y26 y27 = some r) : runE C 78 [agg [int .i64 y1, int .i64 y2, sl y3 y4, sl y5 y6, sl y7 y8, sl y9
 y10, int .i64 y11, bool y12, sl y13 y14, int .i64 y15], sl y16 y17, agg [int .i64 y18, int .i64 y19, sl y20 y21, sl y22 y23, sl y24 y25, sl y26 y27]] = some r := ofR (j := 1)
 (F := fun s => T78 (orc C s.k) y1 y2 y3 y4 y5 y6 y7 y8 y9 y10 y11 y12 y13 y14 y15 y16 y17 y18 y19 y20 y21 y22 y23 y24 y25 y26 y27) (fun _ => by kernel_rfl) (by
  unfold T78
  repeat' first | (with_reducible first | intro _ | exact cC | apply cN cR | apply cT | apply cI | apply cF | apply cB | apply cN cC | exact cR)) h
def T79 (O : Orc) (y1 y2 : Int) (y3 : Nat) (y4 : List V) (y5 : Nat) (y6 : List V) (y7 : Nat) (y8 : List V) (y9 : Nat) (y10 : List V) (y11 : Int) (y12 : Bool) (y13 : Nat) (y14 : List V) (y15 : Int) : Option V := both (both (need (O.R 0 150 [agg [int .i64 y1, int .i64 y2, sl y3 y4, sl y5 y6, sl y7 y8]]) fun x1 => asTup (some x1) fun x2 =>
 PI.asInt .i64 x2[0]? fun x3 => PI.asInt .i64 x2[1]? fun x4 => asOsl x2[2]? fun x5 x6 => asOsl x2[3]? fun x7 x8 => asOsl x2[4]? fun x9 x10 => both (both (need (O.R 0 151 [sl y9 y10]) fun x11 => asTup
 (some x11) fun x12 => asOsl x12[0]? fun x13 x14 => need (O.R 0 152 [sl y13 y14]) fun x15 => asTup (some x15) fun x16 => asOsl x16[0]? fun x17 x18 => must (false || x6.all flatV) (must (false ||
 x8.all flatV) (must (false || x10.all flatV) (some (tup [int .i64 x3, int .i64 x4, osl x5 x6, osl x7 x8, osl x9 x10, osl x13 x14, int .i64 y11, bool y12, osl x17 x18, int .i64
 y15]))))) (need (O.R 0 151 [sl y9 y10]) fun x19 => asTup (some x19) fun x20 => asOsl x20[0]? fun x21 x22 => need (O.R 0 152 [sl y13 y14]) fun x23 => asTup (some x23) fun x24 => asOsl x24[0]? fun
 x25 x26 => must (false || x6.all flatV) (must (false || x8.all flatV) (must (false || x10.all flatV) (some (tup [int .i64 x3, int .i64 x4, osl x5 x6, osl x7 x8, osl x9 x10, osl x21 x22,
 int .i64 y11, bool y12, osl x25 x26, int .i64 y15])))))) (need (O.R 0 151 [sl y9 y10]) fun x27 => asTup (some x27) fun x28 => asOsl x28[0]? fun x29 x30 => need (O.R 0 152 [sl y13 y14]) fun
 x31 => asTup (some x31) fun x32 => asOsl x32[0]? fun x33 x34 => must (false || x6.all flatV) (must (false || x8.all flatV) (must (false || x10.all flatV) (some (tup [int .i64 x3, int .i64 x4,
 osl x5 x6, osl x7 x8, osl x9 x10, osl x29 x30, int .i64 y11, bool y12, osl x33 x34, int .i64 y15])))))) (both (both (need (O.R 0 150 [agg [int .i64 y1, int .i64 y2, sl y3 y4,
 sl y5 y6, sl y7 y8]]) fun x35 => asTup (some x35) fun x36 => PI.asInt .i64 x36[0]? fun x37 => PI.asInt .i64 x36[1]? fun x38 => asOsl x36[2]? fun x39 x40 => asOsl x36[3]? fun x41 x42 => asOsl
 x36[4]? fun x43 x44 => both (need (O.R 0 151 [sl y9 y10]) fun x45 => asTup (some x45) fun x46 => asOsl x46[0]? fun x47 x48 => need (O.R 0 152 [sl y13 y14]) fun x49 => asTup (some x49) fun x50 =>
 asOsl x50[0]? fun x51 x52 => must (false || x40.all flatV) (must (false || x42.all flatV) (must (false || x44.all flatV) (some (tup [int .i64 x37, int .i64 x38, osl x39 x40, osl x41 x42,
 osl x43 x44, osl x47 x48, int .i64 y11, bool y12, osl x51 x52, int .i64 y15]))))) (need (O.R 0 151 [sl y9 y10]) fun x53 => asTup (some x53) fun x54 => asOsl x54[0]? fun x55 x56 => need
 (O.R 0 152 [sl y13 y14]) fun x57 => asTup (some x57) fun x58 => asOsl x58[0]? fun x59 x60 => must (false || x40.all flatV) (must (false || x42.all flatV) (must (false || x44.all flatV) (some (tup
 [int .i64 x37, int .i64 x38, osl x39 x40, osl x41 x42, osl x43 x44, osl x55 x56, int .i64 y11, bool y12, osl x59 x60, int .i64 y15])))))) (need (O.R 0 150 [agg [int .i64 y1,
 int .i64 y2, sl y3 y4, sl y5 y6, sl y7 y8]]) fun x61 => asTup (some x61) fun x62 => PI.asInt .i64 x62[0]? fun x63 => PI.asInt .i64 x62[1]? fun x64 => asOsl x62[2]? fun x65 x66 => asOsl x62[3]?
 fun x67 x68 => asOsl x62[4]? fun x69 x70 => need (O.R 0 151 [sl y9 y10]) fun x71 => asTup (some x71) fun x72 => asOsl x72[0]? fun x73 x74 => need (O.R 0 152 [sl y13 y14]) fun x75 => asTup (some
 x75) fun x76 => asOsl x76[0]? fun x77 x78 => must (false || x66.all flatV) (must (false || x68.all flatV) (must (false || x70.all flatV) (some (tup [int .i64 x63, int .i64 x64, osl x65 x66,
 osl x67 x68, osl x69 x70, osl x73 x74, int .i64 y11, bool y12, osl x77 x78, int .i64 y15])))))) (both (need (O.R 0 150 [agg [int .i64 y1, int .i64 y2, sl y3 y4, sl y5 y6, sl
 y7 y8]]) fun x79 => asTup (some x79) fun x80 => PI.asInt .i64 x80[0]? fun x81 => PI.asInt .i64 x80[1]? fun x82 => asOsl x80[2]? fun x83 x84 => asOsl x80[3]? fun x85 x86 => asOsl x80[4]? fun x87 x88 =>
 need (O.R 0 151 [sl y9 y10]) fun x89 => asTup (some x89) fun x90 => asOsl x90[0]? fun x91 x92 => need (O.R 0 152 [sl y13 y14]) fun x93 => asTup (some x93) fun x94 => asOsl x94[0]? fun x95 x96 =>
 must (false || x84.all flatV) (must (false || x86.all flatV) (must (false || x88.all flatV) (some (tup [int .i64 x81, int .i64 x82, osl x83 x84, osl x85 x86, osl x87 x88, osl x91 x92,
 int .i64 y11, bool y12, osl x95 x96, int .i64 y15]))))) (need (O.R 0 150 [agg [int .i64 y1, int .i64 y2, sl y3 y4, sl y5 y6, sl y7 y8]]) fun x97 => asTup (some x97) fun x98 =>
 PI.asInt .i64 x98[0]? fun x99 => PI.asInt .i64 x98[1]? fun x100 => asOsl x98[2]? fun x101 x102 => asOsl x98[3]? fun x103 x104 => asOsl x98[4]? fun x105 x106 => need (O.R 0 151 [sl y9 y10]) fun x107
 => asTup (some x107) fun x108 => asOsl x108[0]? fun x109 x110 => need (O.R 0 152 [sl y13 y14]) fun x111 => asTup (some x111) fun x112 => asOsl x112[0]? fun x113 x114 => must (false || x102.all
 flatV) (must (false || x104.all flatV) (must (false || x106.all flatV) (some (tup [int .i64 x99, int .i64 x100, osl x101 x102, osl x103 x104, osl x105 x106, osl x109 x110, int .i64
 y11, bool y12, osl x113 x114, int .i64 y15])))))))) (both (both (both (need (O.R 0 150 [agg [int .i64 y1, int .i64 y2, sl y3 y4, sl y5 y6, sl y7 y8]]) fun x115 => asTup (some x115)
 fun x116 => PI.asInt .i64 x116[0]? fun x117 => PI.asInt .i64 x116[1]? fun x118 => asOsl x116[2]? fun x119 x120 => asOsl x116[3]? fun x121 x122 => asOsl x116[4]? fun x123 x124 => both (need (O.R 0 151
 [sl y9 y10]) fun x125 => asTup (some x125) fun x126 => asOsl x126[0]? fun x127 x128 => need (O.R 0 152 [sl y13 y14]) fun x129 => asTup (some x129) fun x130 => asOsl x130[0]? fun x131 x132 => must
 (false || x120.all flatV) (must (false || x122.all flatV) (must (false || x124.all flatV) (some (tup [int .i64 x117, int .i64 x118, osl x119 x120, osl x121 x122, osl x123 x124, osl x127
 x128, int .i64 y11, bool y12, osl x131 x132, int .i64 y15]))))) (need (O.R 0 151 [sl y9 y10]) fun x133 => asTup (some x133) fun x134 => asOsl x134[0]? fun x135 x136 => need (O.R 0 152 [sl
 y13 y14]) fun x137 => asTup (some x137) fun x138 => asOsl x138[0]? fun x139 x140 => must (false || x120.all flatV) (must (false || x122.all flatV) (must (false || x124.all flatV) (some (tup [int
 .i64 x117, int .i64 x118, osl x119 x120, osl x121 x122, osl x123 x124, osl x135 x136, int .i64 y11, bool y12, osl x139 x140, int .i64 y15])))))) (need (O.R 0 150 [agg [int .i64
 y1, int .i64 y2, sl y3 y4, sl y5 y6, sl y7 y8]]) fun x141 => asTup (some x141) fun x142 => PI.asInt .i64 x142[0]? fun x143 => PI.asInt .i64 x142[1]? fun x144 => asOsl x142[2]? fun x145 x146 =>
 asOsl x142[3]? fun x147 x148 => asOsl x142[4]? fun x149 x150 => need (O.R 0 151 [sl y9 y10]) fun x151 => asTup (some x151) fun x152 => asOsl x152[0]? fun x153 x154 => need (O.R 0 152 [sl y13 y14])
 fun x155 => asTup (some x155) fun x156 => asOsl x156[0]? fun x157 x158 => must (false || x146.all flatV) (must (false || x148.all flatV) (must (false || x150.all flatV) (some (tup [int .i64 x143,
 int .i64 x144, osl x145 x146, osl x147 x148, osl x149 x150, osl x153 x154, int .i64 y11, bool y12, osl x157 x158, int .i64 y15])))))) (need (O.R 0 150 [agg [int .i64 y1, int
 .i64 y2, sl y3 y4, sl y5 y6, sl y7 y8]]) fun x159 => asTup (some x159) fun x160 => PI.asInt .i64 x160[0]? fun x161 => PI.asInt .i64 x160[1]? fun x162 => asOsl x160[2]? fun x163 x164 => asOsl
 x160[3]? fun x165 x166 => asOsl x160[4]? fun x167 x168 => need (O.R 0 151 [sl y9 y10]) fun x169 => asTup (some x169) fun x170 => asOsl x170[0]? fun x171 x172 => need (O.R 0 152 [sl y13 y14]) fun
 x173 => asTup (some x173) fun x174 => asOsl x174[0]? fun x175 x176 => must (false || x164.all flatV) (must (false || x166.all flatV) (must (false || x168.all flatV) (some (tup [int .i64 x161,
 int .i64 x162, osl x163 x164, osl x165 x166, osl x167 x168, osl x171 x172, int .i64 y11, bool y12, osl x175 x176, int .i64 y15])))))) (both (both (need (O.R 0 150 [agg [int .i64
 y1, int .i64 y2, sl y3 y4, sl y5 y6, sl y7 y8]]) fun x177 => asTup (some x177) fun x178 => PI.asInt .i64 x178[0]? fun x179 => PI.asInt .i64 x178[1]? fun x180 => asOsl x178[2]? fun x181 x182 =>
 asOsl x178[3]? fun x183 x184 => asOsl x178[4]? fun x185 x186 => need (O.R 0 151 [sl y9 y10]) fun x187 => asTup (some x187) fun x188 => asOsl x188[0]? fun x189 x190 => need (O.R 0 152 [sl y13 y14])
 fun x191 => asTup (some x191) fun x192 => asOsl x192[0]? fun x193 x194 => must (false || x182.all flatV) (must (false || x184.all flatV) (must (false || x186.all flatV) (some (tup [int .i64 x179,
 int .i64 x180, osl x181 x182, osl x183 x184, osl x185 x186, osl x189 x190, int .i64 y11, bool y12, osl x193 x194, int .i64 y15]))))) (need (O.R 0 150 [agg [int .i64 y1, int
 .i64 y2, sl y3 y4, sl y5 y6, sl y7 y8]]) fun x195 => asTup (some x195) fun x196 => PI.asInt .i64 x196[0]? fun x197 => PI.asInt .i64 x196[1]? fun x198 => asOsl x196[2]? fun x199 x200 => asOsl
 x196[3]? fun x201 x202 => asOsl x196[4]? fun x203 x204 => need (O.R 0 151 [sl y9 y10]) fun x205 => asTup (some x205) fun x206 => asOsl x206[0]? fun x207 x208 => need (O.R 0 152 [sl y13 y14]) fun
 x209 => asTup (some x209) fun x210 => asOsl x210[0]? fun x211 x212 => must (false || x200.all flatV) (must (false || x202.all flatV) (must (false || x204.all flatV) (some (tup [int .i64 x197,
 int .i64 x198, osl x199 x200, osl x201 x202, osl x203 x204, osl x207 x208, int .i64 y11, bool y12, osl x211 x212, int .i64 y15])))))) (need (O.R 0 150 [agg [int .i64 y1, int
 .i64 y2, sl y3 y4, sl y5 y6, sl y7 y8]]) fun x213 => asTup (some x213) fun x214 => PI.asInt .i64 x214[0]? fun x215 => PI.asInt .i64 x214[1]? fun x216 => asOsl x214[2]? fun x217 x218 => asOsl
 x214[3]? fun x219 x220 => asOsl x214[4]? fun x221 x222 => need (O.R 0 151 [sl y9 y10]) fun x223 => asTup (some x223) fun x224 => asOsl x224[0]? fun x225 x226 => need (O.R 0 152 [sl y13 y14]) fun
 x227 => asTup (some x227) fun x228 => asOsl x228[0]? fun x229 x230 => must (false || x218.all flatV) (must (false || x220.all flatV) (must (false || x222.all flatV) (some (tup [int .i64 x215,
 int .i64 x216, osl x217 x218, osl x219 x220, osl x221 x222, osl x225 x226, int .i64 y11, bool y12, osl x229 x230, int .i64 y15])))))))
theorem E79 (y1 y2 y3 y4 y5 y6 y7 y8 y9 y10 y11 y12 y13 y14 y15) {r
 : V} (h : T79 (orcE C) y1 y2 y3 y4 y5 y6 y7 y8 y9 y10 y11 y12 y13 y14 y15 = some r) : runE C 79 [agg [int .i64 y1, int .i64 y2, sl y3 y4, sl y5 y6, sl y7 y8, sl y9 y10, int
 .i64 y11, bool y12, sl y13 y14, int .i64 y15]] = some r := ofR (j := 1) (F := fun s => T79 (orc C s.k) y1 y2 y3 y4 y5 y6 y7 y8 y9 y10 y11 y12 y13 y14 y15) (fun _ => by kernel_rfl) (by
  unfold T79
  repeat' first | (with_reducible first | intro _ | exact cC | apply cN cR | apply cT | apply cI | apply cM | apply cO | apply cN cC | apply cW | exact cR)) h
def T96 (O : Orc) (y1 y2 : Int) (y3 : Nat) (y4 : List V) (y5 : Nat) (y6 : List V) (y7 : Nat) (y8 : List V) : Option V := bif (↑y3 : Int) != 32 then some (tup
 [int .i64 1]) else bif (↑y5 : Int) != 32 then some (tup [int .i64 1]) else bif (↑y7 : Int) != 32 then some (tup [int .i64 1]) else need (O.R 0 98 [int .i64 y1, int .i64 1, int .i64
 1000000]) fun x1 => asTup (some x1) fun x2 => PI.asBool x2[0]? fun x3 => bif !x3 then some (tup [int .i64 3]) else need (O.R 0 98 [int .i64 y2, int .i64 0, int .i64 1099511627776]) fun x4 =>
 asTup (some x4) fun x5 => PI.asBool x5[0]? fun x6 => bif !x6 then some (tup [int .i64 3]) else some (tup [int .i64 0])
theorem E96 (y1 y2 y3 y4 y5 y6 y7 y8) {r : V} (h : T96 (orcE C) y1 y2 y3 y4 y5 y6 y7 y8 = some r) : runE C 96 [agg
 [int .i64 y1, int .i64 y2, sl y3 y4, sl y5 y6, sl y7 y8]] = some r := ofR (j := 1) (F := fun s => T96 (orc C s.k) y1 y2 y3 y4 y5 y6 y7 y8) (fun _ => by kernel_rfl) (by
  unfold T96
  repeat' first | (with_reducible first | intro _ | exact cC | apply cN cR | apply cT | apply cF | apply cB | apply cN cC | exact cR)) h
def T97 (O : Orc) (k : Nat) (y1 : Nat) (y2 : List V) : Option V := bif (↑y1 : Int) == 0 then some (tup [int .i64 4]) else bif decide ((↑y1 : Int) > 5) then some (tup [int
 .i64 2]) else O.L 0 97 0 [true, true, true, false, true] [] k [(0, sl y1 y2), (3, int .i64 0)] []
theorem E97 (y1 y2) {r : V} (h : T97 (orcE C) 0 y1 y2 = some r) : runE C 97 [sl y1 y2] = some r := ofR (j := 1) (F := fun s => T97 (orc C s.k) s.k y1 y2) (fun _ => by
 kernel_rfl) (by
  unfold T97
  repeat' first | (with_reducible first | intro _ | exact cC | apply cF) | exact cD0 gK) h
def T98 (O : Orc) (y1 y2 y3 : Int) : Option V := bif decide (y1 ≥ y2) then some (tup [bool (decide (y1 ≤ y3))]) else some (tup [bool false])
theorem E98 (y1 y2 y3) {r : V} (h : T98 (orcE C) y1 y2 y3 = some r) : runE C 98 [int .i64 y1, int .i64 y2, int .i64 y3] = some r := ofR (j := 1) (F := fun s => T98 (orc C s.k) y1 y2 y3) (fun _ => by kernel_rfl) (by
  unfold T98
  repeat' first | (with_reducible first | intro _ | exact cC | apply cF)) h
def T29l1 (O : Orc) (m : Nat) (y1 y2 y3 y4 : Int) (y5 : Nat) (y6 : List V) (y7 : Nat) (y8 : List V) (y9 : Nat) (y10 : List V) (y11 : Nat) (y12 : List V) (y13 : Int) (y14 : Bool) (y15 : Nat) (y16 : List V) (y17 : Int) : Option V := bif decide (y2 < y1) then must (inB y2 y15) (must (decide (y2.toNat * 1 < y16.length)) (asSl y16[y2.toNat * 1]? fun x1 x2
 => bif (↑x1 : Int) != 32 then must (inB y2 y15) (must (decide (y2.toNat * 1 < y16.length)) (asSl y16[y2.toNat * 1]? fun x3 x4 => bif (↑x3 : Int) != 0 then some (tup [int .i64 1]) else O.L 0 29 0
 [true, true, true, true, true, true, true, true, false, true] [] m [(1, ptr 0 0), (5, int .i64 y1), (6, int .i64 (i64.wrap (y2 + 1)))] [Ob.box 52 [int .i64 y3, int .i64 y4, sl y5
 y6, sl y7 y8, sl y9 y10, sl y11 y12, int .i64 y13, bool y14, sl y15 y16, int .i64 y17] false])) else O.L 0 29 0 [true, true, true, true, true, true, true, true, false, true] [] m [(1,
 ptr 0 0), (5, int .i64 y1), (6, int .i64 (i64.wrap (y2 + 1)))] [Ob.box 52 [int .i64 y3, int .i64 y4, sl y5 y6, sl y7 y8, sl y9 y10, sl y11 y12, int .i64 y13, bool y14,
 sl y15 y16, int .i64 y17] false])) else must (inB (i64.wrap (y1 - 1)) y15) (must (decide ((i64.wrap (y1 - 1)).toNat * 1 < y16.length)) (asSl y16[(i64.wrap (y1 - 1)).toNat *
 1]? fun x5 x6 => need (O.R 0 82 [sl x5 x6, sl y5 y6]) fun x7 => asTup (some x7) fun x8 => PI.asBool x8[0]? fun x9 => bif !x9 then some (tup [int .i64 1]) else some (tup [int .i64 0])))
theorem E29l1 (y1 y2 y3 y4 y5 y6 y7 y8 y9 y10 y11 y12 y13 y14 y15 y16 y17) {r : V} (h : T29l1 (orcE C) 0 y1 y2 y3 y4 y5 y6 y7 y8 y9 y10 y11 y12 y13 y14 y15 y16 y17 = some r) : loopE C 29 0 [true, true, true, true, true, true, true, true,
 false, true] [] [(1, ptr 0 0), (5, int .i64 y1), (6, int .i64 y2)] [Ob.box 52 [int .i64 y3, int .i64 y4, sl y5 y6, sl y7 y8, sl y9 y10, sl y11 y12, int .i64 y13, bool y14, sl
 y15 y16, int .i64 y17] false] = some r := ofL (j := 0) (F := fun s => T29l1 (orc C s.k) s.m y1 y2 y3 y4 y5 y6 y7 y8 y9 y10 y11 y12 y13 y14 y15 y16 y17) (fs0 fun _ _ => by kernel_rfl) (by
  unfold T29l1
  repeat' first | (with_reducible first | intro _ | exact cC | apply cN cR | apply cT | apply cM | apply cF | apply cB | apply cL | apply cN cC | exact cR) | exact cD0 gM) h
def T81l1 (O : Orc) (m : Nat) (y1 : Nat) (y2 : List V) (y3 : Nat) (y4 : List V) (y5 y6 y7 : Int) (y8 : Nat) (y9 : List V) (y10 : Nat) (y11 : List V) (y12 : Nat) (y13 : List V) (y14 : Nat) (y15 : List V) : Option V := bif decide (y5 < (↑y14 : Int)) then must (inB y5 y14) (PI.asInt .i64 y15[y5.toNat * 6]? fun x1 => PI.asInt .i64 y15[y5.toNat * 6 + 1]? fun x2 =>
 asSl y15[y5.toNat * 6 + 1 + 1]? fun x3 x4 => PI.asInt .i64 y15[y5.toNat * 6 + 1 + 1 + 1]? fun x5 => PI.asInt .i64 y15[y5.toNat * 6 + 1 + 1 + 1 + 1]? fun x6 => asSl y15[y5.toNat * 6 + 1 + 1 + 1 + 1 +
 1]? fun x7 x8 => need (O.R 0 98 [int .i64 x1, int .i64 0, int .i64 (i64.wrap ((↑y1 : Int) - 1))]) fun x9 => asTup (some x9) fun x10 => PI.asBool x10[0]? fun x11 => bif !x11 then some
 (tup [int .i64 3]) else bif decide (y5 > 0) then must (inB (i64.wrap (y5 - 1)) y14) (PI.asInt .i64 y15[(i64.wrap (y5 - 1)).toNat * 6 + 0]? fun x12 => bif decide (x1 ≤ x12) then
 some (tup [int .i64 3]) else must (inB x1 y1) (must (decide (x1.toNat * 2 + 0 < y2.length)) (asSl y2[x1.toNat * 2 + 0]? fun x13 x14 => need (O.R 0 153 [sl x13 x14, sl y3 y4, agg [int .i64
 x2, sl x3 x4, int .i64 x5, int .i64 x6, sl x7 x8]]) fun x15 => asTup (some x15) fun x16 => PI.asBool x16[0]? fun x17 => bif !x17 then some (tup [int .i64 6]) else O.L 0 81 0 [true, true,
 true, true, true, true, false, true] [] m [(0, sl y1 y2), (3, ptr 0 0), (7, sl y3 y4), (8, int .i64 (i64.wrap (y5 + 1)))] [Ob.box 55 [int .i64 y6, int .i64 y7, sl y8 y9, sl y10
 y11, sl y12 y13, sl y14 y15] false]))) else must (inB x1 y1) (must (decide (x1.toNat * 2 + 0 < y2.length)) (asSl y2[x1.toNat * 2 + 0]? fun x18 x19 => need (O.R 0 153 [sl x18 x19, sl y3 y4,
 agg [int .i64 x2, sl x3 x4, int .i64 x5, int .i64 x6, sl x7 x8]]) fun x20 => asTup (some x20) fun x21 => PI.asBool x21[0]? fun x22 => bif !x22 then some (tup [int .i64 6]) else O.L 0
 81 0 [true, true, true, true, true, true, false, true] [] m [(0, sl y1 y2), (3, ptr 0 0), (7, sl y3 y4), (8, int .i64 (i64.wrap (y5 + 1)))] [Ob.box 55 [int .i64 y6, int .i64 y7,
 sl y8 y9, sl y10 y11, sl y12 y13, sl y14 y15] false]))) else some (tup [int .i64 0])
theorem E81l1 (y1 y2 y3 y4 y5 y6 y7 y8 y9 y10 y11 y12 y13 y14 y15) {r : V} (h : T81l1 (orcE C) 0 y1 y2 y3 y4 y5 y6 y7 y8 y9 y10 y11 y12 y13 y14 y15 = some r) : loopE C 81 0 [true, true, true, true, true, true, false, true] [] [(0, sl y1 y2), (3, ptr 0
 0), (7, sl y3 y4), (8, int .i64 y5)] [Ob.box 55 [int .i64 y6, int .i64 y7, sl y8 y9, sl y10 y11, sl y12 y13, sl y14 y15] false] = some r := ofL (j := 0) (F := fun s => T81l1 (orc C
 s.k) s.m y1 y2 y3 y4 y5 y6 y7 y8 y9 y10 y11 y12 y13 y14 y15) (fs0 fun _ _ => by kernel_rfl) (by
  unfold T81l1
  repeat' first | (with_reducible first | intro _ | exact cC | apply cN cR | apply cT | apply cI | apply cM | apply cF | apply cB | apply cL | apply cN cC | exact cR) | exact cD0 gM) h
def T142 (O : Orc) (k : Nat) (y1 : Int) : Option V := O.L 0 142 0 [true, true, false, true] [] k [(0, int .i64 y1), (3, ref 0), (4, int .i64 6)] [Ob.row 5 0 [] false]
theorem E142 (y1) {r : V} (h : T142 (orcE C) 0 y1 = some r) : runE C 142 [int .i64 y1] = some r := ofR (j := 1) (F := fun s => T142 (orc C s.k) s.k y1) (fun _ => by kernel_rfl) (by
  unfold T142
  repeat' first | with_reducible exact cC | exact cD0 gK) h
def T143 (O : Orc) (k : Nat) (y1 : Nat) (y2 : List V) : Option V := O.L 0 143 0 [true, true, false, true] [] k [(0, sl y1 y2), (3, ref 0), (4, int .i64 0)] [Ob.row 5 0 []
 false]
theorem E143 (y1 y2) {r : V} (h : T143 (orcE C) 0 y1 y2 = some r) : runE C 143 [sl y1 y2] = some r := ofR (j := 1) (F := fun s => T143 (orc C s.k) s.k y1 y2) (fun _ =>
 by kernel_rfl) (by
  unfold T143
  repeat' first | with_reducible exact cC | exact cD0 gK) h
def T154 (O : Orc) (k : Nat) (y1 : Nat) (y2 : List V) (y3 : Nat) (y4 : List V) : Option V := O.L 0 154 0 [true, false, true] [] k [(0, sl y1 y2), (1, sl y3 y4), (5, int .i64
 0)] []
theorem E154 (y1 y2 y3 y4) {r : V} (h : T154 (orcE C) 0 y1 y2 y3 y4 = some r) : runE C 154 [sl y1 y2, sl y3 y4] = some r := ofR (j := 1) (F := fun s =>
 T154 (orc C s.k) s.k y1 y2 y3 y4) (fun _ => by kernel_rfl) (by
  unfold T154
  repeat' first | with_reducible exact cC | exact cD0 gK) h
def T155 (O : Orc) (k : Nat) (y1 : Nat) (y2 : List V) (y3 y4 : Int) (y5 : Nat) (y6 : List V) (y7 : Nat) (y8 : List V) (y9 : Nat) (y10 : List V) (y11 : Nat) (y12 : List V) : Option V := O.L 0 155 0 [true, true, false, true] [] k [(0, sl y1 y2), (3, ptr 0 0), (5, int .i64 0), (6, int .i64 0)] [Ob.box 55 [int .i64 y3, int .i64 y4, sl y5 y6, sl y7 y8, sl
 y9 y10, sl y11 y12] false]
theorem E155 (y1 y2 y3 y4 y5 y6 y7 y8 y9 y10 y11 y12) {r : V} (h : T155 (orcE C) 0 y1
 y2 y3 y4 y5 y6 y7 y8 y9 y10 y11 y12 = some r) : runE C 155 [sl y1 y2, agg [int .i64 y3, int .i64 y4, sl y5 y6, sl y7 y8, sl y9 y10, sl y11 y12]] = some r := ofR (j := 1) (F := fun s =>
 T155 (orc C s.k) s.k y1 y2 y3 y4 y5 y6 y7 y8 y9 y10 y11 y12) (fun _ => by kernel_rfl) (by
  unfold T155
  repeat' first | with_reducible exact cC | exact cD0 gK) h
def T156 (O : Orc) (k : Nat) (y1 : Nat) (y2 : List V) : Option V := O.L 0 156 0 [true, true, false, true] [] k [(0, sl y1 y2), (3, int .i64 0), (4, int .i64 0)] []
theorem E156 (y1 y2) {r : V} (h : T156 (orcE C) 0 y1 y2 = some r) : runE C 156 [sl y1 y2] = some r := ofR (j := 1) (F := fun s => T156 (orc C s.k) s.k y1 y2) (fun _ =>
 by kernel_rfl) (by
  unfold T156
  repeat' first | with_reducible exact cC | exact cD0 gK) h
def T157 (O : Orc) (k : Nat) (y1 : Nat) (y2 : List V) (y3 : Nat) (y4 : List V) (y5 y6 : Int) (y7 : Nat) (y8 : List V) (y9 : Nat) (y10 : List V) (y11 : Nat) (y12 : List V) (y13 : Nat) (y14 : List V) : Option V := O.L 0 157 0 [true, true, false, true] [] k [(0, sl y1 y2), (1, sl y3 y4), (5, ptr 0 0), (7, int .i64 0), (8, int .i64 0)] [Ob.box 55 [int .i64 y5,
 int .i64 y6, sl y7 y8, sl y9 y10, sl y11 y12, sl y13 y14] false]
theorem E157 (y1 y2 y3 y4 y5 y6 y7 y8 y9 y10 y11 y12 y13 y14) {r : V} (h
 : T157 (orcE C) 0 y1 y2 y3 y4 y5 y6 y7 y8 y9 y10 y11 y12 y13 y14 = some r) : runE C 157 [sl y1 y2, sl y3 y4, agg [int .i64 y5, int .i64 y6, sl y7 y8, sl y9 y10, sl y11 y12, sl
 y13 y14]] = some r := ofR (j := 1) (F := fun s => T157 (orc C s.k) s.k y1 y2 y3 y4 y5 y6 y7 y8 y9 y10 y11 y12 y13 y14) (fun _ => by kernel_rfl) (by
  unfold T157
  repeat' first | with_reducible exact cC | exact cD0 gK) h
def T158 (O : Orc) (k : Nat) (y1 : Nat) (y2 : List V) : Option V := O.L 0 158 0 [true, true, false, true] [] k [(0, sl y1 y2), (3, ref 0), (4, int .i64 0)] [Ob.row 161 0 []
 false]
theorem E158 (y1 y2) {r : V} (h : T158 (orcE C) 0 y1 y2 = some r) : runE C 158 [sl y1 y2] = some r := ofR (j := 1) (F := fun s => T158 (orc C s.k) s.k y1 y2) (fun _ =>
 by kernel_rfl) (by
  unfold T158
  repeat' first | with_reducible exact cC | exact cD0 gK) h
def T159 (O : Orc) (k : Nat) (y1 : Nat) (y2 : List V) : Option V := O.L 0 159 0 [true, true, false, true] [] k [(0, sl y1 y2), (3, ref 0), (4, int .i64 0)] [Ob.row 22 0 []
 false]
theorem E159 (y1 y2) {r : V} (h : T159 (orcE C) 0 y1 y2 = some r) : runE C 159 [sl y1 y2] = some r := ofR (j := 1) (F := fun s => T159 (orc C s.k) s.k y1 y2) (fun _ =>
 by kernel_rfl) (by
  unfold T159
  repeat' first | with_reducible exact cC | exact cD0 gK) h
def T75l1 (O : Orc) (m : Nat) (y1 : Nat) (y2 : List V) (y3 : Int) (y4 : Nat) (y5 : List V) (y6 : Nat) (y7 : List V) (y8 y9 : Int) : Option V := bif decide (y9 < y8) then
 must (inB y9 y6) (PI.asInt .i64 y7[y9.toNat * 6]? fun x1 => PI.asInt .i64 y7[y9.toNat * 6 + 1]? fun x2 => asSl y7[y9.toNat * 6 + 1 + 1]? fun x3 x4 => PI.asInt .i64 y7[y9.toNat * 6 + 1 + 1 + 1]? fun x5
 => PI.asInt .i64 y7[y9.toNat * 6 + 1 + 1 + 1 + 1]? fun x6 => asSl y7[y9.toNat * 6 + 1 + 1 + 1 + 1 + 1]? fun x7 x8 => need (O.R 0 51 [int .i64 x1, int .i64 (i64.wrap (y3 + 1)), int .i64
 (i64.wrap ((↑y1 : Int) - 1))]) fun x9 => asTup (some x9) fun x10 => PI.asBool x10[0]? fun x11 => bif !x11 then some (tup [int .i64 3]) else must (inB x1 y1) (must (decide (x1.toNat * 2 + 0
 < y2.length)) (asSl y2[x1.toNat * 2 + 0]? fun x12 x13 => need (O.R 0 146 [sl x12 x13, sl y4 y5, agg [int .i64 x2, sl x3 x4, int .i64 x5, int .i64 x6, sl x7 x8]]) fun x14 => asTup (some
 x14) fun x15 => PI.asBool x15[0]? fun x16 => bif !x16 then some (tup [int .i64 6]) else O.L 0 75 1 [true, true, true, true, true, false, true] [] m [(0, sl y1 y2), (7, int .i64 x1), (8, sl
 y4 y5), (39, sl y6 y7), (40, int .i64 y8), (41, int .i64 (i64.wrap (y9 + 1)))] []))) else some (tup [int .i64 0])
theorem E75l1 (y1 y2 y3 y4 y5 y6 y7 y8 y9) {r : V} (h : T75l1 (orcE C) 0 y1 y2 y3 y4 y5 y6 y7 y8 y9 = some r) :
 loopE C 75 1 [true, true, true, true, true, false, true] [] [(0, sl y1 y2), (7, int .i64 y3), (8, sl y4 y5), (39, sl y6 y7), (40, int .i64 y8), (41, int .i64 y9)] [] = some r := ofL (j :=
 0) (F := fun s => T75l1 (orc C s.k) s.m y1 y2 y3 y4 y5 y6 y7 y8 y9) (fs0 fun _ _ => by kernel_rfl) (by
  unfold T75l1
  repeat' first | (with_reducible first | intro _ | exact cC | apply cN cR | apply cT | apply cI | apply cM | apply cF | apply cB | apply cL | apply cN cC | exact cR) | exact cD0 gM) h
def T160 (O : Orc) (k : Nat) (y1 : Nat) (y2 : List V) (y3 y4 : Int) (y5 : Nat) (y6 : List V) (y7 : Nat) (y8 : List V) (y9 : Nat) (y10 : List V) (y11 : Nat) (y12 : List V) : Option V := O.L 0 160 0 [true, true, false, true] [] k [(0, sl y1 y2), (5, int .i64 0), (9, sl y11 y12), (10, int .i64 (↑y11 : Int)), (11, int .i64 0)] []
theorem E160 (y1 y2 y3 y4 y5 y6 y7 y8 y9 y10 y11 y12) {r : V} (h : T160 (orcE C) 0 y1
 y2 y3 y4 y5 y6 y7 y8 y9 y10 y11 y12 = some r) : runE C 160 [sl y1 y2, agg [int .i64 y3, int .i64 y4, sl y5 y6, sl y7 y8, sl y9 y10, sl y11 y12]] = some r := ofR (j := 1) (F := fun s =>
 T160 (orc C s.k) s.k y1 y2 y3 y4 y5 y6 y7 y8 y9 y10 y11 y12) (fun _ => by kernel_rfl) (by
  unfold T160
  repeat' first | with_reducible exact cC | exact cD0 gK) h
def T149 (O : Orc) (k : Nat) (y1 : Nat) (y2 : List V) : Option V := O.L 0 149 0 [true, true, false, true] [] k [(3, int .i64 0), (6, sl y1 y2), (7, int .i64 (↑y1 : Int)),
 (8, int .i64 0)] []
theorem E149 (y1 y2) {r : V} (h : T149 (orcE C) 0 y1 y2 = some r) : runE C 149 [sl y1 y2] = some r := ofR (j := 1) (F := fun s => T149 (orc C s.k) s.k y1 y2) (fun _ =>
 by kernel_rfl) (by
  unfold T149
  repeat' first | with_reducible exact cC | exact cD0 gK) h
def T161 (O : Orc) (y1 : Nat) (y2 : List V) : Option V := bif y1.beq (OfNat.ofNat 0) then both (some (tup [osl 0 []])) (must (decide (y2.length = y1 * 1)) (must
 (true && (0 + y1).ble 140737488355328 && ((0 + y1) * 24).ble 140737488355328) (some (tup [osl (0 + y1) y2])))) else must (decide (y2.length = y1 * 1)) (must (true && (0 + y1).ble 140737488355328
 && ((0 + y1) * 24).ble 140737488355328) (some (tup [osl (0 + y1) y2])))
theorem E161 (y1 y2) {r : V} (h : T161 (orcE C) y1 y2 = some r) : runE C 161 [sl y1 y2] = some r := ofR (j := 1) (F := fun s => T161 (orc C s.k) y1 y2) (fun _ =>
 by kernel_rfl) (by
  unfold T161
  repeat' first | (with_reducible first | intro _ | exact cC | apply cM | apply cF | apply cW)) h
def T91l1 (O : Orc) (m : Nat) (y1 y2 y3 y4 : Int) (y5 : Nat) (y6 : List V) (y7 : Nat) (y8 : List V) (y9 : Nat) (y10 : List V) (y11 y12 : Int) (y13
 : Int) (y14 : Int) (y15 : Bool) (y16 : Int) (y17 : Nat) (y18 : List V) (y19 : Nat) (y20 : List V) (y21 : Nat) (y22 : List V) (y23 : Nat) (y24 : List V) (y25 : Nat) (y26 : List V) (y27 : Int) (y28 :
 Int) (y29 : Nat) (y30 : List V) (y31 : Nat) (y32 : List V) (y33 : Nat) (y34 : List V) (y35 : Nat) (y36 : List V) (y37 : Int) (y38 : Bool) (y39 : Int) (y40 : Nat) (y41 : List V) : Option V := bif
 decide (y2 < y1) then must (true && (y40 + 1).ble 140737488355328 && ((y40 + 1) * 24).ble 140737488355328) (O.L 0 91 0 [true, true, true, true, true, true, false, true] [] m [(4, ptr 0 0), (6, ptr
 1 0), (8, ptr 7 0), (51, int .i64 y1), (52, int .i64 (i64.wrap (y2 + 1)))] [Ob.box 48 [int .i64 y3, int .i64 y4, sl y5 y6, sl y7 y8, sl y9 y10] false, Ob.box 59 [int .i64
 y11, int .i64 y12, int .i64 y13, ref 2, ref 3, ref 4, ref 5, int .i64 y14, bool y15, ref 6, int .i64 y16] false, Ob.row 5 y17 y18 false, Ob.row 5 y19 y20 false, Ob.row 5 y21 y22
 false, Ob.row 161 y23 y24 false, Ob.nrow [] 22 y25 y26, Ob.box 52 [int .i64 y27, int .i64 y28, sl y29 y30, sl y31 y32, sl y33 y34, sl y35 y36, int .i64 y37, bool y38, ref 8, int
 .i64 y39] false, Ob.row 22 (y40 + 1) (y41 ++ [sl 0 []]) false]) else must (true && (y40 + 1).ble 140737488355328 && ((y40 + 1) * 24).ble 140737488355328) (bif decide (i64.wrap ((↑(y40 + 1) :
 Int) - 24) > 0) then both (must (decide (0 ≤ i64.wrap ((↑(y40 + 1) : Int) - 24)) && decide (i64.wrap ((↑(y40 + 1) : Int) - 24) ≤ (↑(y40 + 1) : Int))) (need (O.R 0 79 [agg [int .i64
 y27, int .i64 y28, sl y29 y30, sl y31 y32, sl y33 y34, sl y35 y36, int .i64 y37, bool y38, sl (y40 + 1 - (i64.wrap ((↑(y40 + 1) : Int) - 24)).toNat) (List.take ((y40 + 1 -
 (i64.wrap ((↑(y40 + 1) : Int) - 24)).toNat) * 1) (List.drop ((i64.wrap ((↑(y40 + 1) : Int) - 24)).toNat * 1) (y41 ++ [sl y5 y6]))), int .i64 (i64.wrap (y39 +
 i64.wrap ((↑(y40 + 1) : Int) - 24)))]]) fun x1 => asTup (some x1) fun x2 => PI.asInt .i64 x2[0]? fun x3 => PI.asInt .i64 x2[1]? fun x4 => asOsl x2[2]? fun x5 x6 => asOsl x2[3]? fun x7 x8 =>
 asOsl x2[4]? fun x9 x10 => asOsl x2[5]? fun x11 x12 => PI.asInt .i64 x2[6]? fun x13 => PI.asBool x2[7]? fun x14 => asOsl x2[8]? fun x15 x16 => PI.asInt .i64 x2[9]? fun x17 => must (false || x6.all
 flatV) (must (false || x8.all flatV) (must (false || x10.all flatV) (some (tup [int .i64 0, int .i64 x3, int .i64 x4, osl x5 x6, osl x7 x8, osl x9 x10, osl x11 x12, int .i64 x13,
 bool x14, osl x15 x16, int .i64 x17])))))) (must (decide (0 ≤ i64.wrap ((↑(y40 + 1) : Int) - 24)) && decide (i64.wrap ((↑(y40 + 1) : Int) - 24) ≤ (↑(y40 + 1) : Int))) (need (O.R
 0 79 [agg [int .i64 y27, int .i64 y28, sl y29 y30, sl y31 y32, sl y33 y34, sl y35 y36, int .i64 y37, bool y38, sl (y40 + 1 - (i64.wrap ((↑(y40 + 1) : Int) - 24)).toNat)
 (List.take ((y40 + 1 - (i64.wrap ((↑(y40 + 1) : Int) - 24)).toNat) * 1) (List.drop ((i64.wrap ((↑(y40 + 1) : Int) - 24)).toNat * 1) (y41 ++ [sl y5 y6]))), int .i64
 (i64.wrap (y39 + i64.wrap ((↑(y40 + 1) : Int) - 24)))]]) fun x18 => asTup (some x18) fun x19 => PI.asInt .i64 x19[0]? fun x20 => PI.asInt .i64 x19[1]? fun x21 => asOsl x19[2]? fun x22
 x23 => asOsl x19[3]? fun x24 x25 => asOsl x19[4]? fun x26 x27 => asOsl x19[5]? fun x28 x29 => PI.asInt .i64 x19[6]? fun x30 => PI.asBool x19[7]? fun x31 => asOsl x19[8]? fun x32 x33 => PI.asInt .i64
 x19[9]? fun x34 => must (false || x23.all flatV) (must (false || x25.all flatV) (must (false || x27.all flatV) (some (tup [int .i64 0, int .i64 x20, int .i64 x21, osl x22 x23, osl x24 x25,
 osl x26 x27, osl x28 x29, int .i64 x30, bool x31, osl x32 x33, int .i64 x34])))))) else need (O.R 0 79 [agg [int .i64 y27, int .i64 y28, sl y29 y30, sl y31 y32, sl y33 y34,
 sl y35 y36, int .i64 y37, bool y38, sl (y40 + 1) (y41 ++ [sl y5 y6]), int .i64 y39]]) fun x35 => asTup (some x35) fun x36 => PI.asInt .i64 x36[0]? fun x37 => PI.asInt .i64 x36[1]? fun x38
 => asOsl x36[2]? fun x39 x40 => asOsl x36[3]? fun x41 x42 => asOsl x36[4]? fun x43 x44 => asOsl x36[5]? fun x45 x46 => PI.asInt .i64 x36[6]? fun x47 => PI.asBool x36[7]? fun x48 => asOsl x36[8]? fun
 x49 x50 => PI.asInt .i64 x36[9]? fun x51 => must (false || x40.all flatV) (must (false || x42.all flatV) (must (false || x44.all flatV) (some (tup [int .i64 0, int .i64 x37, int .i64 x38,
 osl x39 x40, osl x41 x42, osl x43 x44, osl x45 x46, int .i64 x47, bool x48, osl x49 x50, int .i64 x51])))))
theorem E91l1 (y1 y2 y3 y4 y5 y6 y7 y8 y9 y10 y11 y12 y13 y14 y15) (y16 :
 Int) (y17 : Nat) (y18 : List V) (y19 : Nat) (y20 : List V) (y21 : Nat) (y22 : List V) (y23 : Nat) (y24 : List V) (y25 : Nat) (y26 : List V) (y27 : Int) (y28 : Int) (y29 : Nat) (y30 : List V) (y31 :
 Nat) (y32 : List V) (y33 : Nat) (y34 : List V) (y35 : Nat) (y36 : List V) (y37 : Int) (y38 : Bool) (y39 : Int) (y40 : Nat) (y41 : List V) {r : V} (h : T91l1 (orcE C) 0 y1 y2 y3 y4 y5 y6 y7 y8 y9
 y10 y11 y12 y13 y14 y15 y16 y17 y18 y19 y20 y21 y22 y23 y24 y25 y26 y27 y28 y29 y30 y31 y32 y33 y34 y35 y36 y37 y38 y39 y40 y41 = some r) : loopE C 91 0 [true, true, true, true, true, true, false,
 true] [] [(4, ptr 0 0), (6, ptr 1 0), (8, ptr 7 0), (51, int .i64 y1), (52, int .i64 y2)] [Ob.box 48 [int .i64 y3, int .i64 y4, sl y5 y6, sl y7 y8, sl y9 y10] false, Ob.box 59
 [int .i64 y11, int .i64 y12, int .i64 y13, ref 2, ref 3, ref 4, ref 5, int .i64 y14, bool y15, ref 6, int .i64 y16] false, Ob.row 5 y17 y18 false, Ob.row 5 y19 y20 false, Ob.row
 5 y21 y22 false, Ob.row 161 y23 y24 false, Ob.nrow [] 22 y25 y26, Ob.box 52 [int .i64 y27, int .i64 y28, sl y29 y30, sl y31 y32, sl y33 y34, sl y35 y36, int .i64 y37, bool y38, ref
 8, int .i64 y39] false, Ob.row 22 y40 y41 false] = some r := ofL (j := 0) (F := fun s => T91l1 (orc C s.k) s.m y1 y2 y3 y4 y5 y6 y7 y8 y9 y10 y11 y12 y13 y14 y15 y16 y17 y18 y19 y20 y21 y22
 y23 y24 y25 y26 y27 y28 y29 y30 y31 y32 y33 y34 y35 y36 y37 y38 y39 y40 y41) (fs0 fun _ _ => by kernel_rfl) (by
  unfold T91l1
  repeat' first | (with_reducible first | intro _ | exact cC | apply cN cR | apply cT | apply cI | apply cM | apply cF | apply cB | apply cO | apply cN cC | apply cW | exact cR) | exact cD0 gM) h
end Go.Proofs.YtodapaplfjfnlaaGreat.EqF
