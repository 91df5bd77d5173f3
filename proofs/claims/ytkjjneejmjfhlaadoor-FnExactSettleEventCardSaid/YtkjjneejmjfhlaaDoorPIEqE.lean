/-
  The functions of a table, as the interpreter tells them. Printed by a program.
-/
import Derived.Test.YtkjjneejmjfhlaaDoorPITabE
import Derived.Test.YtkjjneejmjfhlaaDoorPIPlain
import Derived.KernelRfl
namespace Go.Proofs.YtkjjneejmjfhlaaDoor.EqE
open Go Go.PI
set_option maxRecDepth 100000
set_option maxHeartbeats 4000000
set_option linter.unusedVariables false
set_option linter.unusedSimpArgs false
noncomputable abbrev C := tabE.cfg

noncomputable def T6 (O : Orc) (k m q0 q1 : Nat) (y1 : Int) (y2 : Int) (y3 : Int) (y4 : Int) (y5 : Nat) (y6 : List V) (y7 : Int) (y8 : Bool) (y9 : Int) (y10 : Int) (y11 : Int) (y12 : ByteArray) :
 Option V := need (O.R 0 13 [V.agg [V.int .i64 y1, V.int .i64 y2, V.int .i64 y3, V.int .i64 y4, V.sl y5 y6, V.int .i64 y7, V.bool y8], V.int .i64 1048576]) fun x1 => asTup (some x1) fun x2 => PI.asInt
 .i64 x2[0]? fun x3 => bif decide (x3 < 0) then some (V.tup [V.bool true]) else need (O.R 0 25 [V.agg [V.int .i64 y9, V.int .i64 y10, V.int .i64 y11, V.str y12], V.int .i64 x3]) fun x4 => asTup (some
 x4) fun x5 => PI.asInt .i64 x5[0]? fun x6 => bif decide (x6 < 0) then some (V.tup [V.bool true]) else need (O.R 0 14 [V.agg [V.int .i64 y1, V.int .i64 y2, V.int .i64 y3, V.int .i64 y4, V.sl y5 y6,
 V.int .i64 y7, V.bool y8]]) fun x7 => asTup (some x7) fun x8 => PI.asInt .i64 x8[0]? fun x9 => PI.asInt .i64 x8[1]? fun x10 => PI.asInt .i64 x8[2]? fun x11 => PI.asInt .i64 x8[3]? fun x12 => asOsl
 x8[4]? fun x13 x14 => PI.asInt .i64 x8[5]? fun x15 => PI.asBool x8[6]? fun x16 => need (O.R 0 26 [V.agg [V.int .i64 y9, V.int .i64 y10, V.int .i64 y11, V.str y12]]) fun x17 => asTup (some x17) fun x18
 => PI.asInt .i64 x18[0]? fun x19 => PI.asInt .i64 x18[1]? fun x20 => PI.asInt .i64 x18[2]? fun x21 => asStr x18[3]? fun x22 => need (O.R 0 22 [V.agg [V.int .i64 x9, V.int .i64 x10, V.int .i64 x11,
 V.int .i64 x12, V.sl x13 x14, V.int .i64 x15, V.bool x16], V.agg [V.int .i64 x19, V.int .i64 x20, V.int .i64 x21, V.str x22]]) fun x23 => asTup (some x23) fun x24 => PI.asInt .i64 x24[0]? fun x25 =>
 PI.asInt .i64 x24[1]? fun x26 => PI.asInt .i64 x24[2]? fun x27 => PI.asInt .i64 x24[3]? fun x28 => PI.asInt .i64 x24[4]? fun x29 => asSl x24[5]? fun x30 x31 => PI.asInt .i64 x24[6]? fun x32 =>
 PI.asBool x24[7]? fun x33 => PI.asInt .i64 x24[8]? fun x34 => PI.asInt .i64 x24[9]? fun x35 => PI.asInt .i64 x24[10]? fun x36 => asStr x24[11]? fun x37 => need (O.R 0 14 [V.agg [V.int .i64 y1, V.int
 .i64 y2, V.int .i64 y3, V.int .i64 y4, V.sl y5 y6, V.int .i64 y7, V.bool y8]]) fun x38 => asTup (some x38) fun x39 => PI.asInt .i64 x39[0]? fun x40 => PI.asInt .i64 x39[1]? fun x41 => PI.asInt .i64
 x39[2]? fun x42 => PI.asInt .i64 x39[3]? fun x43 => asOsl x39[4]? fun x44 x45 => PI.asInt .i64 x39[5]? fun x46 => PI.asBool x39[6]? fun x47 => need (O.R 0 26 [V.agg [V.int .i64 y9, V.int .i64 y10,
 V.int .i64 y11, V.str y12]]) fun x48 => asTup (some x48) fun x49 => PI.asInt .i64 x49[0]? fun x50 => PI.asInt .i64 x49[1]? fun x51 => PI.asInt .i64 x49[2]? fun x52 => asStr x49[3]? fun x53 => need
 (O.R 0 21 [V.agg [V.int .i64 x40, V.int .i64 x41, V.int .i64 x42, V.int .i64 x43, V.sl x44 x45, V.int .i64 x46, V.bool x47], V.agg [V.int .i64 x50, V.int .i64 x51, V.int .i64 x52, V.str x53]]) fun x54
 => asTup (some x54) fun x55 => PI.asInt .i64 x55[0]? fun x56 => PI.asInt .i64 x55[1]? fun x57 => PI.asInt .i64 x55[2]? fun x58 => PI.asInt .i64 x55[3]? fun x59 => PI.asInt .i64 x55[4]? fun x60 =>
 asOsl x55[5]? fun x61 x62 => PI.asInt .i64 x55[6]? fun x63 => PI.asBool x55[7]? fun x64 => PI.asInt .i64 x55[8]? fun x65 => PI.asInt .i64 x55[9]? fun x66 => PI.asInt .i64 x55[10]? fun x67 => asStr
 x55[11]? fun x68 => need (O.R 0 15 [V.agg [V.int .i64 x56, V.int .i64 x57, V.int .i64 x58, V.int .i64 x59, V.int .i64 x60, V.sl x61 x62, V.int .i64 x63, V.bool x64, V.int .i64 x65, V.int .i64 x66,
 V.int .i64 x67, V.str x68], V.agg [V.int .i64 x25, V.int .i64 x26, V.int .i64 x27, V.int .i64 x28, V.int .i64 x29, V.sl x30 x31, V.int .i64 x32, V.bool x33, V.int .i64 x34, V.int .i64 x35, V.int .i64
 x36, V.str x37]]) fun x69 => asTup (some x69) fun x70 => PI.asBool x70[0]? fun x71 => bif !x71 then some (V.tup [V.bool false]) else need (O.R 0 14 [V.agg [V.int .i64 y1, V.int .i64 y2, V.int .i64 y3,
 V.int .i64 y4, V.sl y5 y6, V.int .i64 y7, V.bool y8]]) fun x72 => asTup (some x72) fun x73 => PI.asInt .i64 x73[0]? fun x74 => PI.asInt .i64 x73[1]? fun x75 => PI.asInt .i64 x73[2]? fun x76 =>
 PI.asInt .i64 x73[3]? fun x77 => asOsl x73[4]? fun x78 x79 => PI.asInt .i64 x73[5]? fun x80 => PI.asBool x73[6]? fun x81 => need (O.R 0 16 [V.agg [V.int .i64 x40, V.int .i64 x41, V.int .i64 x42, V.int
 .i64 x43, V.sl x44 x45, V.int .i64 x46, V.bool x47], V.agg [V.int .i64 x74, V.int .i64 x75, V.int .i64 x76, V.int .i64 x77, V.sl x78 x79, V.int .i64 x80, V.bool x81]]) fun x82 => asTup (some x82) fun
 x83 => PI.asBool x83[0]? fun x84 => bif !x84 then some (V.tup [V.bool false]) else need (O.W 0 17 [0] [V.agg [V.int .i64 x40, V.int .i64 x41, V.int .i64 x42, V.int .i64 x43, V.ref 0, V.int .i64 x46,
 V.bool x47], V.int .i64 1] [Ob.row 2 x44 x45 false]) fun x85 => asTup (some x85) fun x86 => PI.asInt .i64 x86[0]? fun x87 => asOsl x86[1]? fun x88 x89 => bif decide (x87 < 0) then some (V.tup [V.bool
 false]) else need (O.R 0 15 [V.agg [V.int .i64 x56, V.int .i64 x57, V.int .i64 x58, V.int .i64 x59, V.int .i64 x60, V.sl x61 x62, V.int .i64 x63, V.bool x64, V.int .i64 x65, V.int .i64 x66, V.int .i64
 x67, V.str x68], V.agg [V.int .i64 x25, V.int .i64 x26, V.int .i64 x27, V.int .i64 x28, V.int .i64 x29, V.sl x30 x31, V.int .i64 x32, V.bool x33, V.int .i64 x34, V.int .i64 x35, V.int .i64 x36, V.str
 x37]]) fun x90 => asTup (some x90) fun x91 => PI.asBool x91[0]? fun x92 => bif !x92 then some (V.tup [V.bool false]) else need (O.W 0 18 [0] [V.agg [V.int .i64 x56, V.int .i64 x57, V.int .i64 x58,
 V.int .i64 x59, V.int .i64 x60, V.ref 0, V.int .i64 x63, V.bool x64, V.int .i64 x65, V.int .i64 x66, V.int .i64 x67, V.str x68], V.int .i64 1] [Ob.row 2 x61 x62 false]) fun x93 => asTup (some x93) fun
 x94 => PI.asInt .i64 x94[0]? fun x95 => asOsl x94[1]? fun x96 x97 => need (O.R 0 19 [V.agg [V.int .i64 x56, V.int .i64 x57, V.int .i64 x58, V.int .i64 x59, V.int .i64 x60, V.sl x96 x97, V.int .i64
 x63, V.bool x64, V.int .i64 x65, V.int .i64 x66, V.int .i64 x67, V.str x68], V.int .i64 1]) fun x98 => asTup (some x98) fun x99 => PI.asInt .i64 x99[0]? fun x100 => bif decide (x100 < 0) then some
 (V.tup [V.bool false]) else bif x100 != x95 then some (V.tup [V.bool false]) else need (O.R 0 14 [V.agg [V.int .i64 y1, V.int .i64 y2, V.int .i64 y3, V.int .i64 y4, V.sl y5 y6, V.int .i64 y7, V.bool
 y8]]) fun x101 => asTup (some x101) fun x102 => PI.asInt .i64 x102[0]? fun x103 => PI.asInt .i64 x102[1]? fun x104 => PI.asInt .i64 x102[2]? fun x105 => PI.asInt .i64 x102[3]? fun x106 => asOsl
 x102[4]? fun x107 x108 => PI.asInt .i64 x102[5]? fun x109 => PI.asBool x102[6]? fun x110 => need (O.R 0 26 [V.agg [V.int .i64 y9, V.int .i64 y10, V.int .i64 y11, V.str y12]]) fun x111 => asTup (some
 x111) fun x112 => PI.asInt .i64 x112[0]? fun x113 => PI.asInt .i64 x112[1]? fun x114 => PI.asInt .i64 x112[2]? fun x115 => asStr x112[3]? fun x116 => need (O.R 0 21 [V.agg [V.int .i64 x103, V.int .i64
 x104, V.int .i64 x105, V.int .i64 x106, V.sl x107 x108, V.int .i64 x109, V.bool x110], V.agg [V.int .i64 x113, V.int .i64 x114, V.int .i64 x115, V.str x116]]) fun x117 => asTup (some x117) fun x118 =>
 PI.asInt .i64 x118[0]? fun x119 => PI.asInt .i64 x118[1]? fun x120 => PI.asInt .i64 x118[2]? fun x121 => PI.asInt .i64 x118[3]? fun x122 => PI.asInt .i64 x118[4]? fun x123 => asOsl x118[5]? fun x124
 x125 => PI.asInt .i64 x118[6]? fun x126 => PI.asBool x118[7]? fun x127 => PI.asInt .i64 x118[8]? fun x128 => PI.asInt .i64 x118[9]? fun x129 => PI.asInt .i64 x118[10]? fun x130 => asStr x118[11]? fun
 x131 => need (O.R 0 15 [V.agg [V.int .i64 x119, V.int .i64 x120, V.int .i64 x121, V.int .i64 x122, V.int .i64 x123, V.sl x124 x125, V.int .i64 x126, V.bool x127, V.int .i64 x128, V.int .i64 x129,
 V.int .i64 x130, V.str x131], V.agg [V.int .i64 x25, V.int .i64 x26, V.int .i64 x27, V.int .i64 x28, V.int .i64 x29, V.sl x30 x31, V.int .i64 x32, V.bool x33, V.int .i64 x34, V.int .i64 x35, V.int
 .i64 x36, V.str x37]]) fun x132 => asTup (some x132) fun x133 => PI.asBool x133[0]? fun x134 => bif !x134 then some (V.tup [V.bool false]) else need (O.R 0 19 [V.agg [V.int .i64 x56, V.int .i64 x57,
 V.int .i64 x58, V.int .i64 x59, V.int .i64 x60, V.sl x96 x97, V.int .i64 x63, V.bool x64, V.int .i64 x65, V.int .i64 x66, V.int .i64 x67, V.str x68], V.int .i64 1]) fun x135 => asTup (some x135) fun
 x136 => PI.asInt .i64 x136[0]? fun x137 => bif decide (x137 < 0) then some (V.tup [V.bool false]) else bif x137 != x95 then some (V.tup [V.bool false]) else some (V.tup [V.bool true])
theorem e6 (k m q0 q1 : Nat) (y1 : Int) (y2 : Int) (y3 : Int) (y4 : Int) (y5 : Nat) (y6 : List V) (y7 : Int) (y8 : Bool) (y9 : Int) (y10 : Int) (y11 : Int) (y12 : ByteArray) : runV C (k + 1) 6 [V.agg
 [V.int .i64 y1, V.int .i64 y2, V.int .i64 y3, V.int .i64 y4, V.sl y5 y6, V.int .i64 y7, V.bool y8], V.agg [V.int .i64 y9, V.int .i64 y10, V.int .i64 y11, V.str y12]] = T6 (orc C k) k m q0 q1 y1 y2 y3
 y4 y5 y6 y7 y8 y9 y10 y11 y12 := by kernel_rfl
theorem E6 (y1 : Int) (y2 : Int) (y3 : Int) (y4 : Int) (y5 : Nat) (y6 : List V) (y7 : Int) (y8 : Bool) (y9 : Int) (y10 : Int) (y11 : Int) (y12 : ByteArray) {r : V} (h : T6 (orcE C) 0 0 0 0 y1 y2 y3 y4
 y5 y6 y7 y8 y9 y10 y11 y12 = some r) : runE C 6 [V.agg [V.int .i64 y1, V.int .i64 y2, V.int .i64 y3, V.int .i64 y4, V.sl y5 y6, V.int .i64 y7, V.bool y8], V.agg [V.int .i64 y9, V.int .i64 y10, V.int
 .i64 y11, V.str y12]] = some r := ofR (F := fun s => T6 (orc C s.k) s.k s.m 0 0 y1 y2 y3 y4 y5 y6 y7 y8 y9 y10 y11 y12) (fun k => e6 k k 0 0 y1 y2 y3 y4 y5 y6 y7 y8 y9 y10 y11 y12) (by
  unfold T6
  repeat' first | with_reducible exact cC | with_reducible refine cN cR fun _ => ?_ | with_reducible refine cN cQ fun _ => ?_ | with_reducible refine cT fun _ => ?_ | with_reducible refine cI fun _ => ?_ | with_reducible refine cF ?_ ?_ | with_reducible refine cB fun _ => ?_ | with_reducible refine cS fun _ => ?_ | with_reducible refine cL fun _ _ => ?_ | with_reducible refine cO fun _ _ => ?_ | with_reducible refine cN cC fun _ => ?_ | with_reducible exact cR | with_reducible exact cQ) h

noncomputable def T5 (O : Orc) (k m q0 q1 : Nat) (y1 : Nat) (y2 : List V) : Option V := need (O.R 0 7 [V.sl y1 y2]) fun x1 => asTup (some x1) fun x2 => PI.asBool x2[0]? fun x3 => bif x3 then some
 (V.tup [V.bool true]) else need (O.R 0 20 [V.sl y1 y2]) fun x4 => asTup (some x4) fun x5 => PI.asInt .i64 x5[0]? fun x6 => PI.asInt .i64 x5[1]? fun x7 => PI.asInt .i64 x5[2]? fun x8 => PI.asInt .i64
 x5[3]? fun x9 => asSl x5[4]? fun x10 x11 => PI.asInt .i64 x5[5]? fun x12 => PI.asBool x5[6]? fun x13 => PI.asInt .i64 x5[7]? fun x14 => PI.asInt .i64 x5[8]? fun x15 => PI.asInt .i64 x5[9]? fun x16 =>
 asStr x5[10]? fun x17 => need (O.R 0 21 [V.agg [V.int .i64 x6, V.int .i64 x7, V.int .i64 x8, V.int .i64 x9, V.sl x10 x11, V.int .i64 x12, V.bool x13], V.agg [V.int .i64 x14, V.int .i64 x15, V.int .i64
 x16, V.str x17]]) fun x18 => asTup (some x18) fun x19 => PI.asInt .i64 x19[0]? fun x20 => PI.asInt .i64 x19[1]? fun x21 => PI.asInt .i64 x19[2]? fun x22 => PI.asInt .i64 x19[3]? fun x23 => PI.asInt
 .i64 x19[4]? fun x24 => asOsl x19[5]? fun x25 x26 => PI.asInt .i64 x19[6]? fun x27 => PI.asBool x19[7]? fun x28 => PI.asInt .i64 x19[8]? fun x29 => PI.asInt .i64 x19[9]? fun x30 => PI.asInt .i64
 x19[10]? fun x31 => asStr x19[11]? fun x32 => bif x20 != 0 then need (O.R 0 22 [V.agg [V.int .i64 x6, V.int .i64 x7, V.int .i64 x8, V.int .i64 x9, V.sl x10 x11, V.int .i64 x12, V.bool x13], V.agg
 [V.int .i64 x14, V.int .i64 x15, V.int .i64 x16, V.str x17]]) fun x33 => asTup (some x33) fun x34 => PI.asInt .i64 x34[0]? fun x35 => PI.asInt .i64 x34[1]? fun x36 => PI.asInt .i64 x34[2]? fun x37 =>
 PI.asInt .i64 x34[3]? fun x38 => PI.asInt .i64 x34[4]? fun x39 => asSl x34[5]? fun x40 x41 => PI.asInt .i64 x34[6]? fun x42 => PI.asBool x34[7]? fun x43 => PI.asInt .i64 x34[8]? fun x44 => PI.asInt
 .i64 x34[9]? fun x45 => PI.asInt .i64 x34[10]? fun x46 => asStr x34[11]? fun x47 => some (V.tup [V.bool (x35 == x20)]) else need (O.R 0 23 [V.agg [V.int .i64 x6, V.int .i64 x7, V.int .i64 x8, V.int
 .i64 x9, V.sl x10 x11, V.int .i64 x12, V.bool x13], V.bool true]) fun x48 => asTup (some x48) fun x49 => PI.asInt .i64 x49[0]? fun x50 => PI.asInt .i64 x49[1]? fun x51 => PI.asInt .i64 x49[2]? fun x52
 => PI.asInt .i64 x49[3]? fun x53 => PI.asInt .i64 x49[4]? fun x54 => asOsl x49[5]? fun x55 x56 => PI.asInt .i64 x49[6]? fun x57 => PI.asBool x49[7]? fun x58 => PI.asInt .i64 x49[8]? fun x59 =>
 PI.asInt .i64 x49[9]? fun x60 => PI.asInt .i64 x49[10]? fun x61 => asStr x49[11]? fun x62 => need (O.R 0 12 [V.agg [V.int .i64 x21, V.int .i64 x22, V.int .i64 x23, V.int .i64 x24, V.sl x25 x26, V.int
 .i64 x27, V.bool x28]]) fun x63 => asTup (some x63) fun x64 => PI.asInt .i64 x64[0]? fun x65 => bif x65 == 0 then bif x23 == IntKind.i64.wrap (x8 + x16) then bif x22 == x7 then need (O.R 0 24 [V.sl
 x25 x26, V.int .i64 x15]) fun x66 => asTup (some x66) fun x67 => PI.asBool x67[0]? fun x68 => bif x68 then bif (↑x25 : Int) == IntKind.i64.wrap ((↑x10 : Int) + 1) then need (O.R 0 21 [V.agg [V.int
 .i64 x21, V.int .i64 x22, V.int .i64 x23, V.int .i64 x24, V.sl x25 x26, V.int .i64 x27, V.bool x28], V.agg [V.int .i64 x14, V.int .i64 x15, V.int .i64 x16, V.str x17]]) fun x69 => asTup (some x69) fun
 x70 => PI.asInt .i64 x70[0]? fun x71 => PI.asInt .i64 x70[1]? fun x72 => PI.asInt .i64 x70[2]? fun x73 => PI.asInt .i64 x70[3]? fun x74 => PI.asInt .i64 x70[4]? fun x75 => asOsl x70[5]? fun x76 x77 =>
 PI.asInt .i64 x70[6]? fun x78 => PI.asBool x70[7]? fun x79 => PI.asInt .i64 x70[8]? fun x80 => PI.asInt .i64 x70[9]? fun x81 => PI.asInt .i64 x70[10]? fun x82 => asStr x70[11]? fun x83 => bif x71 == 7
 then bif x50 == 0 then need (O.R 0 21 [V.agg [V.int .i64 x51, V.int .i64 x52, V.int .i64 x53, V.int .i64 x54, V.sl x55 x56, V.int .i64 x57, V.bool x58], V.agg [V.int .i64 x14, V.int .i64 x15, V.int
 .i64 x16, V.str x17]]) fun x84 => asTup (some x84) fun x85 => PI.asInt .i64 x85[0]? fun x86 => PI.asInt .i64 x85[1]? fun x87 => PI.asInt .i64 x85[2]? fun x88 => PI.asInt .i64 x85[3]? fun x89 =>
 PI.asInt .i64 x85[4]? fun x90 => asOsl x85[5]? fun x91 x92 => PI.asInt .i64 x85[6]? fun x93 => PI.asBool x85[7]? fun x94 => PI.asInt .i64 x85[8]? fun x95 => PI.asInt .i64 x85[9]? fun x96 => PI.asInt
 .i64 x85[10]? fun x97 => asStr x85[11]? fun x98 => bif x86 == 9 then need (O.R 0 11 [V.agg [V.int .i64 x51, V.int .i64 x52, V.int .i64 x53, V.int .i64 x54, V.sl x55 x56, V.int .i64 x57, V.bool x58]])
 fun x99 => asTup (some x99) fun x100 => PI.asInt .i64 x100[0]? fun x101 => PI.asInt .i64 x100[1]? fun x102 => need (O.R 0 11 [V.agg [V.int .i64 x6, V.int .i64 x7, V.int .i64 x8, V.int .i64 x9, V.sl
 x10 x11, V.int .i64 x12, V.bool x13]]) fun x103 => asTup (some x103) fun x104 => PI.asInt .i64 x104[0]? fun x105 => PI.asInt .i64 x104[1]? fun x106 => some (V.tup [V.bool (x102 == x106)]) else some
 (V.tup [V.bool false]) else some (V.tup [V.bool false]) else some (V.tup [V.bool false]) else some (V.tup [V.bool false]) else some (V.tup [V.bool false]) else some (V.tup [V.bool false]) else some
 (V.tup [V.bool false]) else some (V.tup [V.bool false])
theorem e5 (k m q0 q1 : Nat) (y1 : Nat) (y2 : List V) : runV C (k + 1) 5 [V.sl y1 y2] = T5 (orc C k) k m q0 q1 y1 y2 := by kernel_rfl
theorem E5 (y1 : Nat) (y2 : List V) {r : V} (h : T5 (orcE C) 0 0 0 0 y1 y2 = some r) : runE C 5 [V.sl y1 y2] = some r := ofR (F := fun s => T5 (orc C s.k) s.k s.m 0 0 y1 y2) (fun k => e5 k k 0 0 y1 y2)
 (by
  unfold T5
  repeat' first | with_reducible exact cC | with_reducible refine cN cR fun _ => ?_ | with_reducible refine cT fun _ => ?_ | with_reducible refine cI fun _ => ?_ | with_reducible refine cF ?_ ?_ | with_reducible refine cB fun _ => ?_ | with_reducible refine cS fun _ => ?_ | with_reducible refine cL fun _ _ => ?_ | with_reducible refine cO fun _ _ => ?_ | with_reducible refine cN cC fun _ => ?_ | with_reducible exact cR) h

noncomputable def T13 (O : Orc) (k m q0 q1 : Nat) (y1 : Int) (y2 : Int) (y3 : Int) (y4 : Int) (y5 : Nat) (y6 : List V) (y7 : Int) (y8 : Bool) (y9 : Int) : Option V := need (O.R 0 42 [V.sl y5 y6, V.int
 .i64 y9]) fun x1 => asTup (some x1) fun x2 => PI.asInt .i64 x2[0]? fun x3 => bif decide (x3 < 0) then some (V.tup [V.int .i64 (-1)]) else some (V.tup [V.int .i64 x3])
theorem e13 (k m q0 q1 : Nat) (y1 : Int) (y2 : Int) (y3 : Int) (y4 : Int) (y5 : Nat) (y6 : List V) (y7 : Int) (y8 : Bool) (y9 : Int) : runV C (k + 1) 13 [V.agg [V.int .i64 y1, V.int .i64 y2, V.int .i64
 y3, V.int .i64 y4, V.sl y5 y6, V.int .i64 y7, V.bool y8], V.int .i64 y9] = T13 (orc C k) k m q0 q1 y1 y2 y3 y4 y5 y6 y7 y8 y9 := by kernel_rfl
theorem E13 (y1 : Int) (y2 : Int) (y3 : Int) (y4 : Int) (y5 : Nat) (y6 : List V) (y7 : Int) (y8 : Bool) (y9 : Int) {r : V} (h : T13 (orcE C) 0 0 0 0 y1 y2 y3 y4 y5 y6 y7 y8 y9 = some r) : runE C 13
 [V.agg [V.int .i64 y1, V.int .i64 y2, V.int .i64 y3, V.int .i64 y4, V.sl y5 y6, V.int .i64 y7, V.bool y8], V.int .i64 y9] = some r := ofR (F := fun s => T13 (orc C s.k) s.k s.m 0 0 y1 y2 y3 y4 y5 y6
 y7 y8 y9) (fun k => e13 k k 0 0 y1 y2 y3 y4 y5 y6 y7 y8 y9) (by
  unfold T13
  repeat' first | with_reducible exact cC | with_reducible refine cN cR fun _ => ?_ | with_reducible refine cT fun _ => ?_ | with_reducible refine cI fun _ => ?_ | with_reducible refine cF ?_ ?_ | with_reducible refine cN cC fun _ => ?_ | with_reducible exact cR) h

noncomputable def T25 (O : Orc) (k m q0 q1 : Nat) (y1 : Int) (y2 : Int) (y3 : Int) (y4 : ByteArray) (y5 : Int) : Option V := bif decide (IntKind.i64.wrap (y5 - (↑y4.size : Int)) < 0) then some (V.tup
 [V.int .i64 (-1)]) else some (V.tup [V.int .i64 (IntKind.i64.wrap (y5 - (↑y4.size : Int)))])
theorem e25 (k m q0 q1 : Nat) (y1 : Int) (y2 : Int) (y3 : Int) (y4 : ByteArray) (y5 : Int) : runV C (k + 1) 25 [V.agg [V.int .i64 y1, V.int .i64 y2, V.int .i64 y3, V.str y4], V.int .i64 y5] = T25 (orc
 C k) k m q0 q1 y1 y2 y3 y4 y5 := by kernel_rfl
theorem E25 (y1 : Int) (y2 : Int) (y3 : Int) (y4 : ByteArray) (y5 : Int) {r : V} (h : T25 (orcE C) 0 0 0 0 y1 y2 y3 y4 y5 = some r) : runE C 25 [V.agg [V.int .i64 y1, V.int .i64 y2, V.int .i64 y3,
 V.str y4], V.int .i64 y5] = some r := ofR (F := fun s => T25 (orc C s.k) s.k s.m 0 0 y1 y2 y3 y4 y5) (fun k => e25 k k 0 0 y1 y2 y3 y4 y5) (by
  unfold T25
  repeat' first | with_reducible exact cC | with_reducible refine cF ?_ ?_) h

noncomputable def T14 (O : Orc) (k m q0 q1 : Nat) (y1 : Int) (y2 : Int) (y3 : Int) (y4 : Int) (y5 : Nat) (y6 : List V) (y7 : Int) (y8 : Bool) : Option V := need (O.R 0 43 [V.sl y5 y6]) fun x1 => asTup
 (some x1) fun x2 => asOsl x2[0]? fun x3 x4 => must (false || x4.all flatV) (some (V.tup [V.int .i64 y1, V.int .i64 y2, V.int .i64 y3, V.int .i64 y4, V.osl x3 x4, V.int .i64 y7, V.bool y8]))
theorem e14 (k m q0 q1 : Nat) (y1 : Int) (y2 : Int) (y3 : Int) (y4 : Int) (y5 : Nat) (y6 : List V) (y7 : Int) (y8 : Bool) : runV C (k + 1) 14 [V.agg [V.int .i64 y1, V.int .i64 y2, V.int .i64 y3, V.int
 .i64 y4, V.sl y5 y6, V.int .i64 y7, V.bool y8]] = T14 (orc C k) k m q0 q1 y1 y2 y3 y4 y5 y6 y7 y8 := by kernel_rfl
theorem E14 (y1 : Int) (y2 : Int) (y3 : Int) (y4 : Int) (y5 : Nat) (y6 : List V) (y7 : Int) (y8 : Bool) {r : V} (h : T14 (orcE C) 0 0 0 0 y1 y2 y3 y4 y5 y6 y7 y8 = some r) : runE C 14 [V.agg [V.int
 .i64 y1, V.int .i64 y2, V.int .i64 y3, V.int .i64 y4, V.sl y5 y6, V.int .i64 y7, V.bool y8]] = some r := ofR (F := fun s => T14 (orc C s.k) s.k s.m 0 0 y1 y2 y3 y4 y5 y6 y7 y8) (fun k => e14 k k 0 0
 y1 y2 y3 y4 y5 y6 y7 y8) (by
  unfold T14
  repeat' first | with_reducible exact cC | with_reducible refine cN cR fun _ => ?_ | with_reducible refine cT fun _ => ?_ | with_reducible refine cM ?_ | with_reducible refine cO fun _ _ => ?_ | with_reducible refine cN cC fun _ => ?_ | with_reducible exact cR) h

noncomputable def T26 (O : Orc) (k m q0 q1 : Nat) (y1 : Int) (y2 : Int) (y3 : Int) (y4 : ByteArray) : Option V := some (V.tup [V.int .i64 y1, V.int .i64 y2, V.int .i64 y3, V.str y4])
theorem e26 (k m q0 q1 : Nat) (y1 : Int) (y2 : Int) (y3 : Int) (y4 : ByteArray) : runV C (k + 1) 26 [V.agg [V.int .i64 y1, V.int .i64 y2, V.int .i64 y3, V.str y4]] = T26 (orc C k) k m q0 q1 y1 y2 y3 y4
 := by kernel_rfl
theorem E26 (y1 : Int) (y2 : Int) (y3 : Int) (y4 : ByteArray) {r : V} (h : T26 (orcE C) 0 0 0 0 y1 y2 y3 y4 = some r) : runE C 26 [V.agg [V.int .i64 y1, V.int .i64 y2, V.int .i64 y3, V.str y4]] = some
 r := ofR (F := fun s => T26 (orc C s.k) s.k s.m 0 0 y1 y2 y3 y4) (fun k => e26 k k 0 0 y1 y2 y3 y4) (by
  unfold T26
  exact cC) h

noncomputable def T22 (O : Orc) (k m q0 q1 : Nat) (y1 : Int) (y2 : Int) (y3 : Int) (y4 : Int) (y5 : Nat) (y6 : List V) (y7 : Int) (y8 : Bool) (y9 : Int) (y10 : Int) (y11 : Int) (y12 : ByteArray) :
 Option V := need (O.R 0 37 [V.agg [V.int .i64 y1, V.int .i64 y2, V.int .i64 y3, V.int .i64 y4, V.sl y5 y6, V.int .i64 y7, V.bool y8]]) fun x1 => asTup (some x1) fun x2 => PI.asInt .i64 x2[0]? fun x3
 => bif x3 != 0 then some (V.tup [V.int .i64 x3, V.int .i64 0, V.int .i64 0, V.int .i64 0, V.int .i64 0, V.sl 0 [], V.int .i64 0, V.bool false, V.int .i64 0, V.int .i64 0, V.int .i64 0, V.str { data :=
 #[] }]) else need (O.R 0 38 [V.agg [V.int .i64 y1, V.int .i64 y2, V.int .i64 y3, V.int .i64 y4, V.sl y5 y6, V.int .i64 y7, V.bool y8]]) fun x4 => asTup (some x4) fun x5 => PI.asInt .i64 x5[0]? fun x6
 => PI.asInt .i64 x5[1]? fun x7 => PI.asInt .i64 x5[2]? fun x8 => PI.asInt .i64 x5[3]? fun x9 => asOsl x5[4]? fun x10 x11 => PI.asInt .i64 x5[5]? fun x12 => PI.asBool x5[6]? fun x13 => need (O.W 0 51
 [] [V.ptr 0 0, V.agg [V.int .i64 y9, V.int .i64 y10, V.int .i64 y11, V.str y12]] [Ob.box 26 [V.int .i64 x6, V.int .i64 x7, V.int .i64 x8, V.int .i64 x9, V.ref 1, V.int .i64 x12, V.bool x13] false,
 Ob.row 2 x10 x11 false]) fun x14 => asTup (some x14) fun x15 => PI.asInt .i64 x15[0]? fun x16 => PI.asInt .i64 x15[1]? fun x17 => PI.asInt .i64 x15[2]? fun x18 => PI.asInt .i64 x15[3]? fun x19 =>
 PI.asInt .i64 x15[4]? fun x20 => asOsl x15[5]? fun x21 x22 => PI.asInt .i64 x15[6]? fun x23 => PI.asBool x15[7]? fun x24 => bif x16 != 0 then some (V.tup [V.int .i64 x16, V.int .i64 0, V.int .i64 0,
 V.int .i64 0, V.int .i64 0, V.sl 0 [], V.int .i64 0, V.bool false, V.int .i64 0, V.int .i64 0, V.int .i64 0, V.str { data := #[] }]) else some (V.tup [V.int .i64 0, V.int .i64 x17, V.int .i64 x18,
 V.int .i64 x19, V.int .i64 x20, V.sl x21 x22, V.int .i64 x23, V.bool x24, V.int .i64 y9, V.int .i64 y10, V.int .i64 y11, V.str y12])
theorem e22 (k m q0 q1 : Nat) (y1 : Int) (y2 : Int) (y3 : Int) (y4 : Int) (y5 : Nat) (y6 : List V) (y7 : Int) (y8 : Bool) (y9 : Int) (y10 : Int) (y11 : Int) (y12 : ByteArray) : runV C (k + 1) 22 [V.agg
 [V.int .i64 y1, V.int .i64 y2, V.int .i64 y3, V.int .i64 y4, V.sl y5 y6, V.int .i64 y7, V.bool y8], V.agg [V.int .i64 y9, V.int .i64 y10, V.int .i64 y11, V.str y12]] = T22 (orc C k) k m q0 q1 y1 y2 y3
 y4 y5 y6 y7 y8 y9 y10 y11 y12 := by kernel_rfl
theorem E22 (y1 : Int) (y2 : Int) (y3 : Int) (y4 : Int) (y5 : Nat) (y6 : List V) (y7 : Int) (y8 : Bool) (y9 : Int) (y10 : Int) (y11 : Int) (y12 : ByteArray) {r : V} (h : T22 (orcE C) 0 0 0 0 y1 y2 y3
 y4 y5 y6 y7 y8 y9 y10 y11 y12 = some r) : runE C 22 [V.agg [V.int .i64 y1, V.int .i64 y2, V.int .i64 y3, V.int .i64 y4, V.sl y5 y6, V.int .i64 y7, V.bool y8], V.agg [V.int .i64 y9, V.int .i64 y10,
 V.int .i64 y11, V.str y12]] = some r := ofR (F := fun s => T22 (orc C s.k) s.k s.m 0 0 y1 y2 y3 y4 y5 y6 y7 y8 y9 y10 y11 y12) (fun k => e22 k k 0 0 y1 y2 y3 y4 y5 y6 y7 y8 y9 y10 y11 y12) (by
  unfold T22
  repeat' first | with_reducible exact cC | with_reducible refine cN cR fun _ => ?_ | with_reducible refine cN cQ fun _ => ?_ | with_reducible refine cT fun _ => ?_ | with_reducible refine cI fun _ => ?_ | with_reducible refine cF ?_ ?_ | with_reducible refine cB fun _ => ?_ | with_reducible refine cO fun _ _ => ?_ | with_reducible refine cN cC fun _ => ?_ | with_reducible exact cR | with_reducible exact cQ) h

noncomputable def T21 (O : Orc) (k m q0 q1 : Nat) (y1 : Int) (y2 : Int) (y3 : Int) (y4 : Int) (y5 : Nat) (y6 : List V) (y7 : Int) (y8 : Bool) (y9 : Int) (y10 : Int) (y11 : Int) (y12 : ByteArray) :
 Option V := need (O.R 0 12 [V.agg [V.int .i64 y1, V.int .i64 y2, V.int .i64 y3, V.int .i64 y4, V.sl y5 y6, V.int .i64 y7, V.bool y8]]) fun x1 => asTup (some x1) fun x2 => PI.asInt .i64 x2[0]? fun x3
 => bif x3 != 0 then some (V.tup [V.int .i64 x3, V.int .i64 0, V.int .i64 0, V.int .i64 0, V.int .i64 0, V.osl 0 [], V.int .i64 0, V.bool false, V.int .i64 0, V.int .i64 0, V.int .i64 0, V.str { data
 := #[] }]) else need (O.R 0 32 [V.agg [V.int .i64 y9, V.int .i64 y10, V.int .i64 y11, V.str y12]]) fun x4 => asTup (some x4) fun x5 => PI.asInt .i64 x5[0]? fun x6 => bif x6 != 0 then some (V.tup
 [V.int .i64 x6, V.int .i64 0, V.int .i64 0, V.int .i64 0, V.int .i64 0, V.osl 0 [], V.int .i64 0, V.bool false, V.int .i64 0, V.int .i64 0, V.int .i64 0, V.str { data := #[] }]) else need (O.R 0 49
 [V.sl y5 y6, V.int .i64 y10]) fun x7 => asTup (some x7) fun x8 => PI.asInt .i64 x8[0]? fun x9 => PI.asBool x8[1]? fun x10 => bif y9 == y1 then some (V.tup [V.int .i64 1, V.int .i64 0, V.int .i64 0,
 V.int .i64 0, V.int .i64 0, V.osl 0 [], V.int .i64 0, V.bool false, V.int .i64 0, V.int .i64 0, V.int .i64 0, V.str { data := #[] }]) else bif y8 then some (V.tup [V.int .i64 9, V.int .i64 0, V.int
 .i64 0, V.int .i64 0, V.int .i64 0, V.osl 0 [], V.int .i64 0, V.bool false, V.int .i64 0, V.int .i64 0, V.int .i64 0, V.str { data := #[] }]) else bif x10 then some (V.tup [V.int .i64 7, V.int .i64 0,
 V.int .i64 0, V.int .i64 0, V.int .i64 0, V.osl 0 [], V.int .i64 0, V.bool false, V.int .i64 0, V.int .i64 0, V.int .i64 0, V.str { data := #[] }]) else bif (↑y5 : Int) == 60 then some (V.tup [V.int
 .i64 2, V.int .i64 0, V.int .i64 0, V.int .i64 0, V.int .i64 0, V.osl 0 [], V.int .i64 0, V.bool false, V.int .i64 0, V.int .i64 0, V.int .i64 0, V.str { data := #[] }]) else need (O.R 0 33 [V.agg
 [V.int .i64 y1, V.int .i64 y2, V.int .i64 y3, V.int .i64 y4, V.sl y5 y6, V.int .i64 y7, V.bool y8]]) fun x11 => asTup (some x11) fun x12 => PI.asInt .i64 x12[0]? fun x13 => PI.asInt .i64 x12[1]? fun
 x14 => PI.asInt .i64 x12[2]? fun x15 => PI.asInt .i64 x12[3]? fun x16 => asOsl x12[4]? fun x17 x18 => PI.asInt .i64 x12[5]? fun x19 => PI.asBool x12[6]? fun x20 => both (must (decide (0 ≤ x9) &&
 (decide (x9 ≤ (↑x17 : Int)) && (true && (true && (true && (true && ((x17 + 1) * 8).ble (OfNat.ofNat 1000000000))))))) (need (O.R 0 35 [V.agg [V.int .i64 x13, V.int .i64 x14, V.int .i64
 (IntKind.i64.wrap (y3 + y11)), V.int .i64 x16, V.sl (x17 + 1) (List.take x9.toNat x18 ++ [V.int .i64 y10] ++ List.drop x9.toNat x18), V.int .i64 x19, V.bool x20]]) fun x21 => asTup (some x21) fun x22
 => PI.asInt .i64 x22[0]? fun x23 => need (O.R 0 34 [V.int .i64 x23, V.int .i64 0, V.int .i64 y7]) fun x24 => asTup (some x24) fun x25 => PI.asBool x25[0]? fun x26 => bif !x26 then some (V.tup [V.int
 .i64 3, V.int .i64 0, V.int .i64 0, V.int .i64 0, V.int .i64 0, V.osl 0 [], V.int .i64 0, V.bool false, V.int .i64 0, V.int .i64 0, V.int .i64 0, V.str { data := #[] }]) else need (O.R 0 36 [V.int
 .i64 (IntKind.i64.wrap (y3 + y11))]) fun x27 => asTup (some x27) fun x28 => PI.asBool x28[0]? fun x29 => bif !x29 then some (V.tup [V.int .i64 3, V.int .i64 0, V.int .i64 0, V.int .i64 0, V.int .i64
 0, V.osl 0 [], V.int .i64 0, V.bool false, V.int .i64 0, V.int .i64 0, V.int .i64 0, V.str { data := #[] }]) else must (false || (List.take x9.toNat x18 ++ [V.int .i64 y10] ++ List.drop x9.toNat
 x18).all flatV) (some (V.tup [V.int .i64 0, V.int .i64 x13, V.int .i64 x14, V.int .i64 (IntKind.i64.wrap (y3 + y11)), V.int .i64 x16, V.osl (x17 + 1) (List.take x9.toNat x18 ++ [V.int .i64 y10] ++
 List.drop x9.toNat x18), V.int .i64 x19, V.bool x20, V.int .i64 y9, V.int .i64 y10, V.int .i64 y11, V.str y12])))) (must (decide (0 ≤ x9) && (decide (x9 ≤ (↑x17 : Int)) && (true && (true && (true &&
 (true && ((x17 + 1) * 8).ble (OfNat.ofNat 1000000000))))))) (need (O.R 0 35 [V.agg [V.int .i64 x13, V.int .i64 x14, V.int .i64 (IntKind.i64.wrap (y3 + y11)), V.int .i64 x16, V.sl (x17 + 1) (List.take
 x9.toNat x18 ++ [V.int .i64 y10] ++ List.drop x9.toNat x18), V.int .i64 x19, V.bool x20]]) fun x30 => asTup (some x30) fun x31 => PI.asInt .i64 x31[0]? fun x32 => need (O.R 0 34 [V.int .i64 x32, V.int
 .i64 0, V.int .i64 y7]) fun x33 => asTup (some x33) fun x34 => PI.asBool x34[0]? fun x35 => bif !x35 then some (V.tup [V.int .i64 3, V.int .i64 0, V.int .i64 0, V.int .i64 0, V.int .i64 0, V.osl 0 [],
 V.int .i64 0, V.bool false, V.int .i64 0, V.int .i64 0, V.int .i64 0, V.str { data := #[] }]) else need (O.R 0 36 [V.int .i64 (IntKind.i64.wrap (y3 + y11))]) fun x36 => asTup (some x36) fun x37 =>
 PI.asBool x37[0]? fun x38 => bif !x38 then some (V.tup [V.int .i64 3, V.int .i64 0, V.int .i64 0, V.int .i64 0, V.int .i64 0, V.osl 0 [], V.int .i64 0, V.bool false, V.int .i64 0, V.int .i64 0, V.int
 .i64 0, V.str { data := #[] }]) else must (false || (List.take x9.toNat x18 ++ [V.int .i64 y10] ++ List.drop x9.toNat x18).all flatV) (some (V.tup [V.int .i64 0, V.int .i64 x13, V.int .i64 x14, V.int
 .i64 (IntKind.i64.wrap (y3 + y11)), V.int .i64 x16, V.osl (x17 + 1) (List.take x9.toNat x18 ++ [V.int .i64 y10] ++ List.drop x9.toNat x18), V.int .i64 x19, V.bool x20, V.int .i64 y9, V.int .i64 y10,
 V.int .i64 y11, V.str y12]))))
theorem e21 (k m q0 q1 : Nat) (y1 : Int) (y2 : Int) (y3 : Int) (y4 : Int) (y5 : Nat) (y6 : List V) (y7 : Int) (y8 : Bool) (y9 : Int) (y10 : Int) (y11 : Int) (y12 : ByteArray) : runV C (k + 1) 21 [V.agg
 [V.int .i64 y1, V.int .i64 y2, V.int .i64 y3, V.int .i64 y4, V.sl y5 y6, V.int .i64 y7, V.bool y8], V.agg [V.int .i64 y9, V.int .i64 y10, V.int .i64 y11, V.str y12]] = T21 (orc C k) k m q0 q1 y1 y2 y3
 y4 y5 y6 y7 y8 y9 y10 y11 y12 := by kernel_rfl
theorem E21 (y1 : Int) (y2 : Int) (y3 : Int) (y4 : Int) (y5 : Nat) (y6 : List V) (y7 : Int) (y8 : Bool) (y9 : Int) (y10 : Int) (y11 : Int) (y12 : ByteArray) {r : V} (h : T21 (orcE C) 0 0 0 0 y1 y2 y3
 y4 y5 y6 y7 y8 y9 y10 y11 y12 = some r) : runE C 21 [V.agg [V.int .i64 y1, V.int .i64 y2, V.int .i64 y3, V.int .i64 y4, V.sl y5 y6, V.int .i64 y7, V.bool y8], V.agg [V.int .i64 y9, V.int .i64 y10,
 V.int .i64 y11, V.str y12]] = some r := ofR (F := fun s => T21 (orc C s.k) s.k s.m 0 0 y1 y2 y3 y4 y5 y6 y7 y8 y9 y10 y11 y12) (fun k => e21 k k 0 0 y1 y2 y3 y4 y5 y6 y7 y8 y9 y10 y11 y12) (by
  unfold T21
  repeat' first | with_reducible exact cC | with_reducible refine cN cR fun _ => ?_ | with_reducible refine cT fun _ => ?_ | with_reducible refine cI fun _ => ?_ | with_reducible refine cM ?_ | with_reducible refine cF ?_ ?_ | with_reducible refine cB fun _ => ?_ | with_reducible refine cO fun _ _ => ?_ | with_reducible refine cN cC fun _ => ?_ | with_reducible refine cW ?_ ?_ | with_reducible exact cR) h

noncomputable def T15 (O : Orc) (k m q0 q1 : Nat) (y1 : Int) (y2 : Int) (y3 : Int) (y4 : Int) (y5 : Int) (y6 : Nat) (y7 : List V) (y8 : Int) (y9 : Bool) (y10 : Int) (y11 : Int) (y12 : Int) (y13 :
 ByteArray) (y14 : Int) (y15 : Int) (y16 : Int) (y17 : Int) (y18 : Int) (y19 : Nat) (y20 : List V) (y21 : Int) (y22 : Bool) (y23 : Int) (y24 : Int) (y25 : Int) (y26 : ByteArray) : Option V := bif y1 !=
 y14 then some (V.tup [V.bool false]) else need (O.R 0 16 [V.agg [V.int .i64 y2, V.int .i64 y3, V.int .i64 y4, V.int .i64 y5, V.sl y6 y7, V.int .i64 y8, V.bool y9], V.agg [V.int .i64 y15, V.int .i64
 y16, V.int .i64 y17, V.int .i64 y18, V.sl y19 y20, V.int .i64 y21, V.bool y22]]) fun x1 => asTup (some x1) fun x2 => PI.asBool x2[0]? fun x3 => bif !x3 then some (V.tup [V.bool false]) else need (O.R
 0 44 [V.agg [V.int .i64 y10, V.int .i64 y11, V.int .i64 y12, V.str y13], V.agg [V.int .i64 y23, V.int .i64 y24, V.int .i64 y25, V.str y26]]) fun x4 => asTup (some x4) fun x5 => PI.asBool x5[0]? fun x6
 => bif !x6 then some (V.tup [V.bool false]) else some (V.tup [V.bool true])
theorem e15 (k m q0 q1 : Nat) (y1 : Int) (y2 : Int) (y3 : Int) (y4 : Int) (y5 : Int) (y6 : Nat) (y7 : List V) (y8 : Int) (y9 : Bool) (y10 : Int) (y11 : Int) (y12 : Int) (y13 : ByteArray) (y14 : Int)
 (y15 : Int) (y16 : Int) (y17 : Int) (y18 : Int) (y19 : Nat) (y20 : List V) (y21 : Int) (y22 : Bool) (y23 : Int) (y24 : Int) (y25 : Int) (y26 : ByteArray) : runV C (k + 1) 15 [V.agg [V.int .i64 y1,
 V.int .i64 y2, V.int .i64 y3, V.int .i64 y4, V.int .i64 y5, V.sl y6 y7, V.int .i64 y8, V.bool y9, V.int .i64 y10, V.int .i64 y11, V.int .i64 y12, V.str y13], V.agg [V.int .i64 y14, V.int .i64 y15,
 V.int .i64 y16, V.int .i64 y17, V.int .i64 y18, V.sl y19 y20, V.int .i64 y21, V.bool y22, V.int .i64 y23, V.int .i64 y24, V.int .i64 y25, V.str y26]] = T15 (orc C k) k m q0 q1 y1 y2 y3 y4 y5 y6 y7 y8
 y9 y10 y11 y12 y13 y14 y15 y16 y17 y18 y19 y20 y21 y22 y23 y24 y25 y26 := by kernel_rfl
theorem E15 (y1 : Int) (y2 : Int) (y3 : Int) (y4 : Int) (y5 : Int) (y6 : Nat) (y7 : List V) (y8 : Int) (y9 : Bool) (y10 : Int) (y11 : Int) (y12 : Int) (y13 : ByteArray) (y14 : Int) (y15 : Int) (y16 :
 Int) (y17 : Int) (y18 : Int) (y19 : Nat) (y20 : List V) (y21 : Int) (y22 : Bool) (y23 : Int) (y24 : Int) (y25 : Int) (y26 : ByteArray) {r : V} (h : T15 (orcE C) 0 0 0 0 y1 y2 y3 y4 y5 y6 y7 y8 y9 y10
 y11 y12 y13 y14 y15 y16 y17 y18 y19 y20 y21 y22 y23 y24 y25 y26 = some r) : runE C 15 [V.agg [V.int .i64 y1, V.int .i64 y2, V.int .i64 y3, V.int .i64 y4, V.int .i64 y5, V.sl y6 y7, V.int .i64 y8,
 V.bool y9, V.int .i64 y10, V.int .i64 y11, V.int .i64 y12, V.str y13], V.agg [V.int .i64 y14, V.int .i64 y15, V.int .i64 y16, V.int .i64 y17, V.int .i64 y18, V.sl y19 y20, V.int .i64 y21, V.bool y22,
 V.int .i64 y23, V.int .i64 y24, V.int .i64 y25, V.str y26]] = some r := ofR (F := fun s => T15 (orc C s.k) s.k s.m 0 0 y1 y2 y3 y4 y5 y6 y7 y8 y9 y10 y11 y12 y13 y14 y15 y16 y17 y18 y19 y20 y21 y22
 y23 y24 y25 y26) (fun k => e15 k k 0 0 y1 y2 y3 y4 y5 y6 y7 y8 y9 y10 y11 y12 y13 y14 y15 y16 y17 y18 y19 y20 y21 y22 y23 y24 y25 y26) (by
  unfold T15
  repeat' first | with_reducible exact cC | with_reducible refine cN cR fun _ => ?_ | with_reducible refine cT fun _ => ?_ | with_reducible refine cF ?_ ?_ | with_reducible refine cB fun _ => ?_ | with_reducible refine cN cC fun _ => ?_ | with_reducible exact cR) h

noncomputable def T16 (O : Orc) (k m q0 q1 : Nat) (y1 : Int) (y2 : Int) (y3 : Int) (y4 : Int) (y5 : Nat) (y6 : List V) (y7 : Int) (y8 : Bool) (y9 : Int) (y10 : Int) (y11 : Int) (y12 : Int) (y13 : Nat)
 (y14 : List V) (y15 : Int) (y16 : Bool) : Option V := bif y1 != y9 then some (V.tup [V.bool false]) else bif y2 != y10 then some (V.tup [V.bool false]) else bif y3 != y11 then some (V.tup [V.bool
 false]) else bif y4 != y12 then some (V.tup [V.bool false]) else need (O.R 0 45 [V.sl y5 y6, V.sl y13 y14]) fun x1 => asTup (some x1) fun x2 => PI.asBool x2[0]? fun x3 => bif !x3 then some (V.tup
 [V.bool false]) else bif y7 != y15 then some (V.tup [V.bool false]) else bif !y8 == y16 then some (V.tup [V.bool false]) else some (V.tup [V.bool true])
theorem e16 (k m q0 q1 : Nat) (y1 : Int) (y2 : Int) (y3 : Int) (y4 : Int) (y5 : Nat) (y6 : List V) (y7 : Int) (y8 : Bool) (y9 : Int) (y10 : Int) (y11 : Int) (y12 : Int) (y13 : Nat) (y14 : List V) (y15
 : Int) (y16 : Bool) : runV C (k + 1) 16 [V.agg [V.int .i64 y1, V.int .i64 y2, V.int .i64 y3, V.int .i64 y4, V.sl y5 y6, V.int .i64 y7, V.bool y8], V.agg [V.int .i64 y9, V.int .i64 y10, V.int .i64 y11,
 V.int .i64 y12, V.sl y13 y14, V.int .i64 y15, V.bool y16]] = T16 (orc C k) k m q0 q1 y1 y2 y3 y4 y5 y6 y7 y8 y9 y10 y11 y12 y13 y14 y15 y16 := by kernel_rfl
theorem E16 (y1 : Int) (y2 : Int) (y3 : Int) (y4 : Int) (y5 : Nat) (y6 : List V) (y7 : Int) (y8 : Bool) (y9 : Int) (y10 : Int) (y11 : Int) (y12 : Int) (y13 : Nat) (y14 : List V) (y15 : Int) (y16 :
 Bool) {r : V} (h : T16 (orcE C) 0 0 0 0 y1 y2 y3 y4 y5 y6 y7 y8 y9 y10 y11 y12 y13 y14 y15 y16 = some r) : runE C 16 [V.agg [V.int .i64 y1, V.int .i64 y2, V.int .i64 y3, V.int .i64 y4, V.sl y5 y6,
 V.int .i64 y7, V.bool y8], V.agg [V.int .i64 y9, V.int .i64 y10, V.int .i64 y11, V.int .i64 y12, V.sl y13 y14, V.int .i64 y15, V.bool y16]] = some r := ofR (F := fun s => T16 (orc C s.k) s.k s.m 0 0
 y1 y2 y3 y4 y5 y6 y7 y8 y9 y10 y11 y12 y13 y14 y15 y16) (fun k => e16 k k 0 0 y1 y2 y3 y4 y5 y6 y7 y8 y9 y10 y11 y12 y13 y14 y15 y16) (by
  unfold T16
  repeat' first | with_reducible exact cC | with_reducible refine cN cR fun _ => ?_ | with_reducible refine cT fun _ => ?_ | with_reducible refine cF ?_ ?_ | with_reducible refine cB fun _ => ?_ | with_reducible refine cN cC fun _ => ?_ | with_reducible exact cR) h

noncomputable def T17 (O : Orc) (k m q0 q1 : Nat) (y1 : Int) (y2 : Int) (y3 : Int) (y4 : Int) (y5 : Int) (y6 : Bool) (y7 : Int) (y8 : Nat) (y9 : List V) : Option V := need (O.W 0 46 [0] [V.ref 0, V.int
 .i64 y7] [Ob.row 2 y8 y9 false]) fun x1 => asTup (some x1) fun x2 => PI.asInt .i64 x2[0]? fun x3 => asOsl x2[1]? fun x4 x5 => must (false || x5.all flatV) (some (V.tup [V.int .i64 x3, V.osl x4 x5]))
theorem e17 (k m q0 q1 : Nat) (y1 : Int) (y2 : Int) (y3 : Int) (y4 : Int) (y5 : Int) (y6 : Bool) (y7 : Int) (y8 : Nat) (y9 : List V) : runW C (k + 1) 17 [0] [V.agg [V.int .i64 y1, V.int .i64 y2, V.int
 .i64 y3, V.int .i64 y4, V.ref 0, V.int .i64 y5, V.bool y6], V.int .i64 y7] [Ob.row 2 y8 y9 false] = T17 (orc C k) k m q0 q1 y1 y2 y3 y4 y5 y6 y7 y8 y9 := by kernel_rfl
theorem E17 (y1 : Int) (y2 : Int) (y3 : Int) (y4 : Int) (y5 : Int) (y6 : Bool) (y7 : Int) (y8 : Nat) (y9 : List V) {r : V} (h : T17 (orcE C) 0 0 0 0 y1 y2 y3 y4 y5 y6 y7 y8 y9 = some r) : runWE C 17
 [0] [V.agg [V.int .i64 y1, V.int .i64 y2, V.int .i64 y3, V.int .i64 y4, V.ref 0, V.int .i64 y5, V.bool y6], V.int .i64 y7] [Ob.row 2 y8 y9 false] = some r := ofW (F := fun s => T17 (orc C s.k) s.k s.m
 0 0 y1 y2 y3 y4 y5 y6 y7 y8 y9) (fun k => e17 k k 0 0 y1 y2 y3 y4 y5 y6 y7 y8 y9) (by
  unfold T17
  repeat' first | with_reducible exact cC | with_reducible refine cN cQ fun _ => ?_ | with_reducible refine cT fun _ => ?_ | with_reducible refine cI fun _ => ?_ | with_reducible refine cM ?_ | with_reducible refine cO fun _ _ => ?_ | with_reducible refine cN cC fun _ => ?_ | with_reducible exact cQ) h

noncomputable def T18 (O : Orc) (k m q0 q1 : Nat) (y1 : Int) (y2 : Int) (y3 : Int) (y4 : Int) (y5 : Int) (y6 : Int) (y7 : Bool) (y8 : Int) (y9 : Int) (y10 : Int) (y11 : ByteArray) (y12 : Int) (y13 :
 Nat) (y14 : List V) : Option V := need (O.W 0 17 [0] [V.agg [V.int .i64 y2, V.int .i64 y3, V.int .i64 y4, V.int .i64 y5, V.ref 0, V.int .i64 y6, V.bool y7], V.int .i64 y12] [Ob.row 2 y13 y14 false])
 fun x1 => asTup (some x1) fun x2 => PI.asInt .i64 x2[0]? fun x3 => asOsl x2[1]? fun x4 x5 => must (false || x5.all flatV) (some (V.tup [V.int .i64 x3, V.osl x4 x5]))
theorem e18 (k m q0 q1 : Nat) (y1 : Int) (y2 : Int) (y3 : Int) (y4 : Int) (y5 : Int) (y6 : Int) (y7 : Bool) (y8 : Int) (y9 : Int) (y10 : Int) (y11 : ByteArray) (y12 : Int) (y13 : Nat) (y14 : List V) :
 runW C (k + 1) 18 [0] [V.agg [V.int .i64 y1, V.int .i64 y2, V.int .i64 y3, V.int .i64 y4, V.int .i64 y5, V.ref 0, V.int .i64 y6, V.bool y7, V.int .i64 y8, V.int .i64 y9, V.int .i64 y10, V.str y11],
 V.int .i64 y12] [Ob.row 2 y13 y14 false] = T18 (orc C k) k m q0 q1 y1 y2 y3 y4 y5 y6 y7 y8 y9 y10 y11 y12 y13 y14 := by kernel_rfl
theorem E18 (y1 : Int) (y2 : Int) (y3 : Int) (y4 : Int) (y5 : Int) (y6 : Int) (y7 : Bool) (y8 : Int) (y9 : Int) (y10 : Int) (y11 : ByteArray) (y12 : Int) (y13 : Nat) (y14 : List V) {r : V} (h : T18
 (orcE C) 0 0 0 0 y1 y2 y3 y4 y5 y6 y7 y8 y9 y10 y11 y12 y13 y14 = some r) : runWE C 18 [0] [V.agg [V.int .i64 y1, V.int .i64 y2, V.int .i64 y3, V.int .i64 y4, V.int .i64 y5, V.ref 0, V.int .i64 y6,
 V.bool y7, V.int .i64 y8, V.int .i64 y9, V.int .i64 y10, V.str y11], V.int .i64 y12] [Ob.row 2 y13 y14 false] = some r := ofW (F := fun s => T18 (orc C s.k) s.k s.m 0 0 y1 y2 y3 y4 y5 y6 y7 y8 y9 y10
 y11 y12 y13 y14) (fun k => e18 k k 0 0 y1 y2 y3 y4 y5 y6 y7 y8 y9 y10 y11 y12 y13 y14) (by
  unfold T18
  repeat' first | with_reducible exact cC | with_reducible refine cN cQ fun _ => ?_ | with_reducible refine cT fun _ => ?_ | with_reducible refine cI fun _ => ?_ | with_reducible refine cM ?_ | with_reducible refine cO fun _ _ => ?_ | with_reducible refine cN cC fun _ => ?_ | with_reducible exact cQ) h

noncomputable def T19 (O : Orc) (k m q0 q1 : Nat) (y1 : Int) (y2 : Int) (y3 : Int) (y4 : Int) (y5 : Int) (y6 : Nat) (y7 : List V) (y8 : Int) (y9 : Bool) (y10 : Int) (y11 : Int) (y12 : Int) (y13 :
 ByteArray) (y14 : Int) : Option V := need (O.R 0 47 [V.agg [V.int .i64 y2, V.int .i64 y3, V.int .i64 y4, V.int .i64 y5, V.sl y6 y7, V.int .i64 y8, V.bool y9], V.int .i64 y14]) fun x1 => asTup (some
 x1) fun x2 => PI.asInt .i64 x2[0]? fun x3 => bif decide (x3 < 0) then some (V.tup [V.int .i64 (-1)]) else some (V.tup [V.int .i64 x3])
theorem e19 (k m q0 q1 : Nat) (y1 : Int) (y2 : Int) (y3 : Int) (y4 : Int) (y5 : Int) (y6 : Nat) (y7 : List V) (y8 : Int) (y9 : Bool) (y10 : Int) (y11 : Int) (y12 : Int) (y13 : ByteArray) (y14 : Int) :
 runV C (k + 1) 19 [V.agg [V.int .i64 y1, V.int .i64 y2, V.int .i64 y3, V.int .i64 y4, V.int .i64 y5, V.sl y6 y7, V.int .i64 y8, V.bool y9, V.int .i64 y10, V.int .i64 y11, V.int .i64 y12, V.str y13],
 V.int .i64 y14] = T19 (orc C k) k m q0 q1 y1 y2 y3 y4 y5 y6 y7 y8 y9 y10 y11 y12 y13 y14 := by kernel_rfl
theorem E19 (y1 : Int) (y2 : Int) (y3 : Int) (y4 : Int) (y5 : Int) (y6 : Nat) (y7 : List V) (y8 : Int) (y9 : Bool) (y10 : Int) (y11 : Int) (y12 : Int) (y13 : ByteArray) (y14 : Int) {r : V} (h : T19
 (orcE C) 0 0 0 0 y1 y2 y3 y4 y5 y6 y7 y8 y9 y10 y11 y12 y13 y14 = some r) : runE C 19 [V.agg [V.int .i64 y1, V.int .i64 y2, V.int .i64 y3, V.int .i64 y4, V.int .i64 y5, V.sl y6 y7, V.int .i64 y8,
 V.bool y9, V.int .i64 y10, V.int .i64 y11, V.int .i64 y12, V.str y13], V.int .i64 y14] = some r := ofR (F := fun s => T19 (orc C s.k) s.k s.m 0 0 y1 y2 y3 y4 y5 y6 y7 y8 y9 y10 y11 y12 y13 y14) (fun k
 => e19 k k 0 0 y1 y2 y3 y4 y5 y6 y7 y8 y9 y10 y11 y12 y13 y14) (by
  unfold T19
  repeat' first | with_reducible exact cC | with_reducible refine cN cR fun _ => ?_ | with_reducible refine cT fun _ => ?_ | with_reducible refine cI fun _ => ?_ | with_reducible refine cF ?_ ?_ | with_reducible refine cN cC fun _ => ?_ | with_reducible exact cR) h

noncomputable def T7 (O : Orc) (k m q0 q1 : Nat) (y1 : Nat) (y2 : List V) : Option V := some (V.tup [V.bool (decide ((↑y1 : Int) > 1048576))])
theorem e7 (k m q0 q1 : Nat) (y1 : Nat) (y2 : List V) : runV C (k + 1) 7 [V.sl y1 y2] = T7 (orc C k) k m q0 q1 y1 y2 := by kernel_rfl
theorem E7 (y1 : Nat) (y2 : List V) {r : V} (h : T7 (orcE C) 0 0 0 0 y1 y2 = some r) : runE C 7 [V.sl y1 y2] = some r := ofR (F := fun s => T7 (orc C s.k) s.k s.m 0 0 y1 y2) (fun k => e7 k k 0 0 y1 y2)
 (by
  unfold T7
  exact cC) h

noncomputable def T20 (O : Orc) (k m q0 q1 : Nat) (y1 : Nat) (y2 : List V) : Option V := need (O.W 7 28 [] [V.ptr 0 0] [Ob.box 80 [V.sl y1 y2, V.int .i64 0] false]) fun x1 => asTup (some x1) fun x2 =>
 PI.asInt .i64 x2[0]? fun x3 => PI.asInt .i64 x2[1]? fun x4 => PI.asInt .i64 x2[2]? fun x5 => PI.asInt .i64 x2[3]? fun x6 => asSl x2[4]? fun x7 x8 => PI.asInt .i64 x2[5]? fun x9 => PI.asBool x2[6]? fun
 x10 => asSl x2[7]? fun x11 x12 => PI.asInt .i64 x2[8]? fun x13 => need (O.W 7 29 [] [V.ptr 0 0] [Ob.box 80 [V.sl x11 x12, V.int .i64 x13] false]) fun x14 => asTup (some x14) fun x15 => PI.asInt .i64
 x15[0]? fun x16 => PI.asInt .i64 x15[1]? fun x17 => PI.asInt .i64 x15[2]? fun x18 => asStr x15[3]? fun x19 => asSl x15[4]? fun x20 x21 => PI.asInt .i64 x15[5]? fun x22 => need (O.W 7 48 [] [V.ptr 0 0,
 V.int .i64 5] [Ob.box 80 [V.sl x20 x21, V.int .i64 x22] false]) fun x23 => asTup (some x23) fun x24 => PI.asBool x24[0]? fun x25 => asSl x24[1]? fun x26 x27 => PI.asInt .i64 x24[2]? fun x28 => bif
 !x25 then some (V.tup [V.int .i64 x3, V.int .i64 x4, V.int .i64 x5, V.int .i64 x6, V.sl x7 x8, V.int .i64 x9, V.bool x10, V.int .i64 (IntKind.i64.wrap (3 - x3)), V.int .i64 x17, V.int .i64 x18, V.str
 x19]) else some (V.tup [V.int .i64 x3, V.int .i64 x4, V.int .i64 x5, V.int .i64 x6, V.sl x7 x8, V.int .i64 x9, V.bool x10, V.int .i64 x16, V.int .i64 x17, V.int .i64 x18, V.str x19])
theorem e20 (k m q0 q1 : Nat) (y1 : Nat) (y2 : List V) : runV C (k + 8) 20 [V.sl y1 y2] = T20 (orc C k) k m q0 q1 y1 y2 := by kernel_rfl
theorem E20 (y1 : Nat) (y2 : List V) {r : V} (h : T20 (orcE C) 0 0 0 0 y1 y2 = some r) : runE C 20 [V.sl y1 y2] = some r := ofR (F := fun s => T20 (orc C s.k) s.k s.m 0 0 y1 y2) (fun k => e20 k k 0 0
 y1 y2) (by
  unfold T20
  repeat' first | with_reducible exact cC | with_reducible refine cN cQ fun _ => ?_ | with_reducible refine cT fun _ => ?_ | with_reducible refine cI fun _ => ?_ | with_reducible refine cF ?_ ?_ | with_reducible refine cB fun _ => ?_ | with_reducible refine cS fun _ => ?_ | with_reducible refine cL fun _ _ => ?_ | with_reducible refine cN cC fun _ => ?_ | with_reducible exact cQ) h

noncomputable def T23 (O : Orc) (k m q0 q1 : Nat) (y1 : Int) (y2 : Int) (y3 : Int) (y4 : Int) (y5 : Nat) (y6 : List V) (y7 : Int) (y8 : Bool) (y9 : Bool) : Option V := need (O.R 0 12 [V.agg [V.int .i64
 y1, V.int .i64 y2, V.int .i64 y3, V.int .i64 y4, V.sl y5 y6, V.int .i64 y7, V.bool y8]]) fun x1 => asTup (some x1) fun x2 => PI.asInt .i64 x2[0]? fun x3 => bif x3 != 0 then some (V.tup [V.int .i64 x3,
 V.int .i64 0, V.int .i64 0, V.int .i64 0, V.int .i64 0, V.osl 0 [], V.int .i64 0, V.bool false, V.int .i64 0, V.int .i64 0, V.int .i64 0, V.str { data := #[] }]) else need (O.R 0 33 [V.agg [V.int .i64
 y1, V.int .i64 y2, V.int .i64 y3, V.int .i64 y4, V.sl y5 y6, V.int .i64 y7, V.bool y8]]) fun x4 => asTup (some x4) fun x5 => PI.asInt .i64 x5[0]? fun x6 => PI.asInt .i64 x5[1]? fun x7 => PI.asInt .i64
 x5[2]? fun x8 => PI.asInt .i64 x5[3]? fun x9 => asOsl x5[4]? fun x10 x11 => PI.asInt .i64 x5[5]? fun x12 => PI.asBool x5[6]? fun x13 => must (false || x11.all flatV) (some (V.tup [V.int .i64 0, V.int
 .i64 x6, V.int .i64 x7, V.int .i64 x8, V.int .i64 x9, V.osl x10 x11, V.int .i64 x12, V.bool y9, V.int .i64 0, V.int .i64 0, V.int .i64 0, V.str { data := #[] }]))
theorem e23 (k m q0 q1 : Nat) (y1 : Int) (y2 : Int) (y3 : Int) (y4 : Int) (y5 : Nat) (y6 : List V) (y7 : Int) (y8 : Bool) (y9 : Bool) : runV C (k + 1) 23 [V.agg [V.int .i64 y1, V.int .i64 y2, V.int
 .i64 y3, V.int .i64 y4, V.sl y5 y6, V.int .i64 y7, V.bool y8], V.bool y9] = T23 (orc C k) k m q0 q1 y1 y2 y3 y4 y5 y6 y7 y8 y9 := by kernel_rfl
theorem E23 (y1 : Int) (y2 : Int) (y3 : Int) (y4 : Int) (y5 : Nat) (y6 : List V) (y7 : Int) (y8 : Bool) (y9 : Bool) {r : V} (h : T23 (orcE C) 0 0 0 0 y1 y2 y3 y4 y5 y6 y7 y8 y9 = some r) : runE C 23
 [V.agg [V.int .i64 y1, V.int .i64 y2, V.int .i64 y3, V.int .i64 y4, V.sl y5 y6, V.int .i64 y7, V.bool y8], V.bool y9] = some r := ofR (F := fun s => T23 (orc C s.k) s.k s.m 0 0 y1 y2 y3 y4 y5 y6 y7 y8
 y9) (fun k => e23 k k 0 0 y1 y2 y3 y4 y5 y6 y7 y8 y9) (by
  unfold T23
  repeat' first | with_reducible exact cC | with_reducible refine cN cR fun _ => ?_ | with_reducible refine cT fun _ => ?_ | with_reducible refine cI fun _ => ?_ | with_reducible refine cM ?_ | with_reducible refine cF ?_ ?_ | with_reducible refine cB fun _ => ?_ | with_reducible refine cO fun _ _ => ?_ | with_reducible refine cN cC fun _ => ?_ | with_reducible exact cR) h

noncomputable def T12 (O : Orc) (k m q0 q1 : Nat) (y1 : Int) (y2 : Int) (y3 : Int) (y4 : Int) (y5 : Nat) (y6 : List V) (y7 : Int) (y8 : Bool) : Option V := need (O.R 0 40 [V.int .i64 y1]) fun x1 =>
 asTup (some x1) fun x2 => PI.asBool x2[0]? fun x3 => bif !x3 then some (V.tup [V.int .i64 1]) else need (O.R 0 36 [V.int .i64 y2]) fun x4 => asTup (some x4) fun x5 => PI.asBool x5[0]? fun x6 => bif
 !x6 then some (V.tup [V.int .i64 3]) else need (O.R 0 36 [V.int .i64 y3]) fun x7 => asTup (some x7) fun x8 => PI.asBool x8[0]? fun x9 => bif !x9 then some (V.tup [V.int .i64 3]) else need (O.R 0 36
 [V.int .i64 y7]) fun x10 => asTup (some x10) fun x11 => PI.asBool x11[0]? fun x12 => bif !x12 then some (V.tup [V.int .i64 3]) else need (O.R 0 34 [V.int .i64 y4, V.int .i64 1, V.int .i64 1000001])
 fun x13 => asTup (some x13) fun x14 => PI.asBool x14[0]? fun x15 => bif !x15 then some (V.tup [V.int .i64 3]) else bif decide ((↑y5 : Int) > 60) then some (V.tup [V.int .i64 2]) else O.L 0 12 1 [true,
 true, false, true] [] k [(1, V.ptr 0 0), (39, V.sl y5 y6), (40, V.int .i64 (↑y5 : Int)), (41, V.int .i64 0)] [Ob.box 26 [V.int .i64 y1, V.int .i64 y2, V.int .i64 y3, V.int .i64 y4, V.sl y5 y6, V.int
 .i64 y7, V.bool y8] false]
theorem e12 (k m q0 q1 : Nat) (y1 : Int) (y2 : Int) (y3 : Int) (y4 : Int) (y5 : Nat) (y6 : List V) (y7 : Int) (y8 : Bool) : runV C (k + 1) 12 [V.agg [V.int .i64 y1, V.int .i64 y2, V.int .i64 y3, V.int
 .i64 y4, V.sl y5 y6, V.int .i64 y7, V.bool y8]] = T12 (orc C k) k m q0 q1 y1 y2 y3 y4 y5 y6 y7 y8 := by kernel_rfl
theorem E12 (y1 : Int) (y2 : Int) (y3 : Int) (y4 : Int) (y5 : Nat) (y6 : List V) (y7 : Int) (y8 : Bool) {r : V} (h : T12 (orcE C) 0 0 0 0 y1 y2 y3 y4 y5 y6 y7 y8 = some r) : runE C 12 [V.agg [V.int
 .i64 y1, V.int .i64 y2, V.int .i64 y3, V.int .i64 y4, V.sl y5 y6, V.int .i64 y7, V.bool y8]] = some r := ofR (F := fun s => T12 (orc C s.k) s.k s.m 0 0 y1 y2 y3 y4 y5 y6 y7 y8) (fun k => e12 k k 0 0
 y1 y2 y3 y4 y5 y6 y7 y8) (by
  unfold T12
  repeat' first | with_reducible exact cC | with_reducible refine cN cR fun _ => ?_ | with_reducible refine cT fun _ => ?_ | with_reducible refine cF ?_ ?_ | with_reducible refine cB fun _ => ?_ | with_reducible refine cN cC fun _ => ?_ | with_reducible exact cR | exact cD0 gK) h

noncomputable def T24 (O : Orc) (k m q0 q1 : Nat) (y1 : Nat) (y2 : List V) (y3 : Int) : Option V := O.L 0 24 0 [true, false, true] [] k [(0, V.sl y1 y2), (1, V.int .i64 y3), (5, V.int .i64 0)] []
theorem e24 (k m q0 q1 : Nat) (y1 : Nat) (y2 : List V) (y3 : Int) : runV C (k + 1) 24 [V.sl y1 y2, V.int .i64 y3] = T24 (orc C k) k m q0 q1 y1 y2 y3 := by kernel_rfl
theorem E24 (y1 : Nat) (y2 : List V) (y3 : Int) {r : V} (h : T24 (orcE C) 0 0 0 0 y1 y2 y3 = some r) : runE C 24 [V.sl y1 y2, V.int .i64 y3] = some r := ofR (F := fun s => T24 (orc C s.k) s.k s.m 0 0
 y1 y2 y3) (fun k => e24 k k 0 0 y1 y2 y3) (by
  unfold T24
  repeat' first | with_reducible exact cC | exact cD0 gK) h

noncomputable def T11 (O : Orc) (k m q0 q1 : Nat) (y1 : Int) (y2 : Int) (y3 : Int) (y4 : Int) (y5 : Nat) (y6 : List V) (y7 : Int) (y8 : Bool) : Option V := need (O.R 0 12 [V.agg [V.int .i64 y1, V.int
 .i64 y2, V.int .i64 y3, V.int .i64 y4, V.sl y5 y6, V.int .i64 y7, V.bool y8]]) fun x1 => asTup (some x1) fun x2 => PI.asInt .i64 x2[0]? fun x3 => bif x3 != 0 then some (V.tup [V.int .i64 x3, V.int
 .i64 0]) else need (O.R 0 35 [V.agg [V.int .i64 y1, V.int .i64 y2, V.int .i64 y3, V.int .i64 y4, V.sl y5 y6, V.int .i64 y7, V.bool y8]]) fun x4 => asTup (some x4) fun x5 => PI.asInt .i64 x5[0]? fun x6
 => some (V.tup [V.int .i64 0, V.int .i64 x6])
theorem e11 (k m q0 q1 : Nat) (y1 : Int) (y2 : Int) (y3 : Int) (y4 : Int) (y5 : Nat) (y6 : List V) (y7 : Int) (y8 : Bool) : runV C (k + 1) 11 [V.agg [V.int .i64 y1, V.int .i64 y2, V.int .i64 y3, V.int
 .i64 y4, V.sl y5 y6, V.int .i64 y7, V.bool y8]] = T11 (orc C k) k m q0 q1 y1 y2 y3 y4 y5 y6 y7 y8 := by kernel_rfl
theorem E11 (y1 : Int) (y2 : Int) (y3 : Int) (y4 : Int) (y5 : Nat) (y6 : List V) (y7 : Int) (y8 : Bool) {r : V} (h : T11 (orcE C) 0 0 0 0 y1 y2 y3 y4 y5 y6 y7 y8 = some r) : runE C 11 [V.agg [V.int
 .i64 y1, V.int .i64 y2, V.int .i64 y3, V.int .i64 y4, V.sl y5 y6, V.int .i64 y7, V.bool y8]] = some r := ofR (F := fun s => T11 (orc C s.k) s.k s.m 0 0 y1 y2 y3 y4 y5 y6 y7 y8) (fun k => e11 k k 0 0
 y1 y2 y3 y4 y5 y6 y7 y8) (by
  unfold T11
  repeat' first | with_reducible exact cC | with_reducible refine cN cR fun _ => ?_ | with_reducible refine cT fun _ => ?_ | with_reducible refine cI fun _ => ?_ | with_reducible refine cF ?_ ?_ | with_reducible refine cN cC fun _ => ?_ | with_reducible exact cR) h

noncomputable def T42 (O : Orc) (k m q0 q1 : Nat) (y1 : Nat) (y2 : List V) (y3 : Int) : Option V := bif decide (IntKind.i64.wrap (y3 - (↑y1 : Int)) < 0) then some (V.tup [V.int .i64 (-1)]) else some
 (V.tup [V.int .i64 (IntKind.i64.wrap (y3 - (↑y1 : Int)))])
theorem e42 (k m q0 q1 : Nat) (y1 : Nat) (y2 : List V) (y3 : Int) : runV C (k + 1) 42 [V.sl y1 y2, V.int .i64 y3] = T42 (orc C k) k m q0 q1 y1 y2 y3 := by kernel_rfl
theorem E42 (y1 : Nat) (y2 : List V) (y3 : Int) {r : V} (h : T42 (orcE C) 0 0 0 0 y1 y2 y3 = some r) : runE C 42 [V.sl y1 y2, V.int .i64 y3] = some r := ofR (F := fun s => T42 (orc C s.k) s.k s.m 0 0
 y1 y2 y3) (fun k => e42 k k 0 0 y1 y2 y3) (by
  unfold T42
  repeat' first | with_reducible exact cC | with_reducible refine cF ?_ ?_) h

noncomputable def T43 (O : Orc) (k m q0 q1 : Nat) (y1 : Nat) (y2 : List V) : Option V := must (decide ((↑y1 : Int) = (↑y1 : Int)) && decide (0 ≤ (↑y1 : Int)) && decide ((↑y1 : Int) ≤ 140737488355328)
 && decide ((↑y1 : Int) * 8 ≤ 140737488355328)) (O.L 0 43 0 [true, true, false, true] [] k [(0, V.sl y1 y2), (3, V.ref 0), (4, V.int .i64 0)] [Ob.row 2 (↑y1 : Int).toNat (reps (↑y1 : Int).toNat [V.int
 .i64 0]) false])
theorem e43 (k m q0 q1 : Nat) (y1 : Nat) (y2 : List V) : runV C (k + 1) 43 [V.sl y1 y2] = T43 (orc C k) k m q0 q1 y1 y2 := by kernel_rfl
theorem E43 (y1 : Nat) (y2 : List V) {r : V} (h : T43 (orcE C) 0 0 0 0 y1 y2 = some r) : runE C 43 [V.sl y1 y2] = some r := ofR (F := fun s => T43 (orc C s.k) s.k s.m 0 0 y1 y2) (fun k => e43 k k 0 0
 y1 y2) (by
  unfold T43
  repeat' first | with_reducible exact cC | with_reducible refine cM ?_ | exact cD0 gK) h

noncomputable def T37 (O : Orc) (k m q0 q1 : Nat) (y1 : Int) (y2 : Int) (y3 : Int) (y4 : Int) (y5 : Nat) (y6 : List V) (y7 : Int) (y8 : Bool) : Option V := need (O.R 0 56 [V.int .i64 y1]) fun x1 =>
 asTup (some x1) fun x2 => PI.asBool x2[0]? fun x3 => bif !x3 then some (V.tup [V.int .i64 1]) else need (O.R 0 57 [V.int .i64 y2, V.int .i64 0, V.int .i64 1000000000000000]) fun x4 => asTup (some x4)
 fun x5 => PI.asBool x5[0]? fun x6 => bif !x6 then some (V.tup [V.int .i64 3]) else need (O.R 0 57 [V.int .i64 y3, V.int .i64 0, V.int .i64 1000000000000000]) fun x7 => asTup (some x7) fun x8 =>
 PI.asBool x8[0]? fun x9 => bif !x9 then some (V.tup [V.int .i64 3]) else need (O.R 0 57 [V.int .i64 y7, V.int .i64 0, V.int .i64 1000000000000000]) fun x10 => asTup (some x10) fun x11 => PI.asBool
 x11[0]? fun x12 => bif !x12 then some (V.tup [V.int .i64 3]) else need (O.R 0 57 [V.int .i64 y4, V.int .i64 1, V.int .i64 1000001]) fun x13 => asTup (some x13) fun x14 => PI.asBool x14[0]? fun x15 =>
 bif !x15 then some (V.tup [V.int .i64 3]) else bif decide ((↑y5 : Int) > 60) then some (V.tup [V.int .i64 2]) else O.L 0 37 0 [true, true, true, true, false, true] [] k [(1, V.ptr 0 0), (3, V.int .i64
 0)] [Ob.box 26 [V.int .i64 y1, V.int .i64 y2, V.int .i64 y3, V.int .i64 y4, V.sl y5 y6, V.int .i64 y7, V.bool y8] false]
theorem e37 (k m q0 q1 : Nat) (y1 : Int) (y2 : Int) (y3 : Int) (y4 : Int) (y5 : Nat) (y6 : List V) (y7 : Int) (y8 : Bool) : runV C (k + 1) 37 [V.agg [V.int .i64 y1, V.int .i64 y2, V.int .i64 y3, V.int
 .i64 y4, V.sl y5 y6, V.int .i64 y7, V.bool y8]] = T37 (orc C k) k m q0 q1 y1 y2 y3 y4 y5 y6 y7 y8 := by kernel_rfl
theorem E37 (y1 : Int) (y2 : Int) (y3 : Int) (y4 : Int) (y5 : Nat) (y6 : List V) (y7 : Int) (y8 : Bool) {r : V} (h : T37 (orcE C) 0 0 0 0 y1 y2 y3 y4 y5 y6 y7 y8 = some r) : runE C 37 [V.agg [V.int
 .i64 y1, V.int .i64 y2, V.int .i64 y3, V.int .i64 y4, V.sl y5 y6, V.int .i64 y7, V.bool y8]] = some r := ofR (F := fun s => T37 (orc C s.k) s.k s.m 0 0 y1 y2 y3 y4 y5 y6 y7 y8) (fun k => e37 k k 0 0
 y1 y2 y3 y4 y5 y6 y7 y8) (by
  unfold T37
  repeat' first | with_reducible exact cC | with_reducible refine cN cR fun _ => ?_ | with_reducible refine cT fun _ => ?_ | with_reducible refine cF ?_ ?_ | with_reducible refine cB fun _ => ?_ | with_reducible refine cN cC fun _ => ?_ | with_reducible exact cR | exact cD0 gK) h

noncomputable def T38 (O : Orc) (k m q0 q1 : Nat) (y1 : Int) (y2 : Int) (y3 : Int) (y4 : Int) (y5 : Nat) (y6 : List V) (y7 : Int) (y8 : Bool) : Option V := must (decide (y6.length = y5 * 1)) (must
 (true && (0 + y5).ble 140737488355328 && ((0 + y5) * 8).ble 140737488355328) (must (false || y6.all flatV) (some (V.tup [V.int .i64 y1, V.int .i64 y2, V.int .i64 y3, V.int .i64 y4, V.osl (0 + y5) y6,
 V.int .i64 y7, V.bool y8]))))
theorem e38 (k m q0 q1 : Nat) (y1 : Int) (y2 : Int) (y3 : Int) (y4 : Int) (y5 : Nat) (y6 : List V) (y7 : Int) (y8 : Bool) : runV C (k + 1) 38 [V.agg [V.int .i64 y1, V.int .i64 y2, V.int .i64 y3, V.int
 .i64 y4, V.sl y5 y6, V.int .i64 y7, V.bool y8]] = T38 (orc C k) k m q0 q1 y1 y2 y3 y4 y5 y6 y7 y8 := by kernel_rfl
theorem E38 (y1 : Int) (y2 : Int) (y3 : Int) (y4 : Int) (y5 : Nat) (y6 : List V) (y7 : Int) (y8 : Bool) {r : V} (h : T38 (orcE C) 0 0 0 0 y1 y2 y3 y4 y5 y6 y7 y8 = some r) : runE C 38 [V.agg [V.int
 .i64 y1, V.int .i64 y2, V.int .i64 y3, V.int .i64 y4, V.sl y5 y6, V.int .i64 y7, V.bool y8]] = some r := ofR (F := fun s => T38 (orc C s.k) s.k s.m 0 0 y1 y2 y3 y4 y5 y6 y7 y8) (fun k => e38 k k 0 0
 y1 y2 y3 y4 y5 y6 y7 y8) (by
  unfold T38
  repeat' first | with_reducible exact cC | with_reducible refine cM ?_) h

noncomputable def T51 (O : Orc) (k m q0 q1 : Nat) (y1 : Int) (y2 : Int) (y3 : Int) (y4 : ByteArray) (y5 : Int) (y6 : Int) (y7 : Int) (y8 : Int) (y9 : Int) (y10 : Bool) (y11 : Nat) (y12 : List V) :
 Option V := need (O.R 0 58 [V.agg [V.int .i64 y1, V.int .i64 y2, V.int .i64 y3, V.str y4]]) fun x1 => asTup (some x1) fun x2 => PI.asInt .i64 x2[0]? fun x3 => bif x3 != 0 then must (false || y12.all
 flatV) (some (V.tup [V.int .i64 x3, V.int .i64 y5, V.int .i64 y6, V.int .i64 y7, V.int .i64 y8, V.osl y11 y12, V.int .i64 y9, V.bool y10])) else bif y1 == y5 then must (false || y12.all flatV) (some
 (V.tup [V.int .i64 1, V.int .i64 y5, V.int .i64 y6, V.int .i64 y7, V.int .i64 y8, V.osl y11 y12, V.int .i64 y9, V.bool y10])) else bif y10 then must (false || y12.all flatV) (some (V.tup [V.int .i64
 9, V.int .i64 y5, V.int .i64 y6, V.int .i64 y7, V.int .i64 y8, V.osl y11 y12, V.int .i64 y9, V.bool y10])) else need (O.R 0 65 [V.sl y11 y12, V.int .i64 y2]) fun x4 => asTup (some x4) fun x5 =>
 PI.asBool x5[0]? fun x6 => bif x6 then must (false || y12.all flatV) (some (V.tup [V.int .i64 7, V.int .i64 y5, V.int .i64 y6, V.int .i64 y7, V.int .i64 y8, V.osl y11 y12, V.int .i64 y9, V.bool y10]))
 else bif decide ((↑y11 : Int) ≥ 60) then must (false || y12.all flatV) (some (V.tup [V.int .i64 2, V.int .i64 y5, V.int .i64 y6, V.int .i64 y7, V.int .i64 y8, V.osl y11 y12, V.int .i64 y9, V.bool
 y10])) else need (O.R 0 59 [V.pin [V.int .i64 y5, V.int .i64 y6, V.int .i64 y7, V.int .i64 y8, V.sl y11 y12, V.int .i64 y9, V.bool y10] 0, V.bool (y5 == 2), V.int .i64 y3]) fun x7 => asTup (some x7)
 fun x8 => PI.asBool x8[0]? fun x9 => bif !x9 then must (false || y12.all flatV) (some (V.tup [V.int .i64 3, V.int .i64 y5, V.int .i64 y6, V.int .i64 y7, V.int .i64 y8, V.osl y11 y12, V.int .i64 y9,
 V.bool y10])) else bif decide (IntKind.i64.wrap (y7 + y3) > 1000000000000000) then must (false || y12.all flatV) (some (V.tup [V.int .i64 3, V.int .i64 y5, V.int .i64 y6, V.int .i64 y7, V.int .i64 y8,
 V.osl y11 y12, V.int .i64 y9, V.bool y10])) else need (O.R 0 66 [V.sl y11 y12, V.int .i64 y2]) fun x10 => asTup (some x10) fun x11 => asOsl x11[0]? fun x12 x13 => must (false || x13.all flatV) (some
 (V.tup [V.int .i64 0, V.int .i64 y5, V.int .i64 y6, V.int .i64 (IntKind.i64.wrap (y7 + y3)), V.int .i64 y8, V.osl x12 x13, V.int .i64 y9, V.bool y10]))
theorem e51 (k m q0 q1 : Nat) (y1 : Int) (y2 : Int) (y3 : Int) (y4 : ByteArray) (y5 : Int) (y6 : Int) (y7 : Int) (y8 : Int) (y9 : Int) (y10 : Bool) (y11 : Nat) (y12 : List V) : runW C (k + 1) 51 []
 [V.ptr 0 0, V.agg [V.int .i64 y1, V.int .i64 y2, V.int .i64 y3, V.str y4]] [Ob.box 26 [V.int .i64 y5, V.int .i64 y6, V.int .i64 y7, V.int .i64 y8, V.ref 1, V.int .i64 y9, V.bool y10] false, Ob.row 2
 y11 y12 false] = T51 (orc C k) k m q0 q1 y1 y2 y3 y4 y5 y6 y7 y8 y9 y10 y11 y12 := by kernel_rfl
theorem E51 (y1 : Int) (y2 : Int) (y3 : Int) (y4 : ByteArray) (y5 : Int) (y6 : Int) (y7 : Int) (y8 : Int) (y9 : Int) (y10 : Bool) (y11 : Nat) (y12 : List V) {r : V} (h : T51 (orcE C) 0 0 0 0 y1 y2 y3
 y4 y5 y6 y7 y8 y9 y10 y11 y12 = some r) : runWE C 51 [] [V.ptr 0 0, V.agg [V.int .i64 y1, V.int .i64 y2, V.int .i64 y3, V.str y4]] [Ob.box 26 [V.int .i64 y5, V.int .i64 y6, V.int .i64 y7, V.int .i64
 y8, V.ref 1, V.int .i64 y9, V.bool y10] false, Ob.row 2 y11 y12 false] = some r := ofW (F := fun s => T51 (orc C s.k) s.k s.m 0 0 y1 y2 y3 y4 y5 y6 y7 y8 y9 y10 y11 y12) (fun k => e51 k k 0 0 y1 y2 y3
 y4 y5 y6 y7 y8 y9 y10 y11 y12) (by
  unfold T51
  repeat' first | with_reducible exact cC | with_reducible refine cN cR fun _ => ?_ | with_reducible refine cT fun _ => ?_ | with_reducible refine cI fun _ => ?_ | with_reducible refine cM ?_ | with_reducible refine cF ?_ ?_ | with_reducible refine cB fun _ => ?_ | with_reducible refine cO fun _ _ => ?_ | with_reducible refine cN cC fun _ => ?_ | with_reducible exact cR) h

noncomputable def T32 (O : Orc) (k m q0 q1 : Nat) (y1 : Int) (y2 : Int) (y3 : Int) (y4 : ByteArray) : Option V := need (O.R 0 40 [V.int .i64 y1]) fun x1 => asTup (some x1) fun x2 => PI.asBool x2[0]?
 fun x3 => bif !x3 then some (V.tup [V.int .i64 1]) else need (O.R 0 41 [V.int .i64 y2]) fun x4 => asTup (some x4) fun x5 => PI.asBool x5[0]? fun x6 => bif !x6 then some (V.tup [V.int .i64 3]) else
 need (O.R 0 34 [V.int .i64 y3, V.int .i64 1, V.int .i64 1000000000]) fun x7 => asTup (some x7) fun x8 => PI.asBool x8[0]? fun x9 => bif !x9 then some (V.tup [V.int .i64 3]) else need (O.R 0 34 [V.int
 .i64 (↑y4.size : Int), V.int .i64 1, V.int .i64 12]) fun x10 => asTup (some x10) fun x11 => PI.asBool x11[0]? fun x12 => bif !x12 then some (V.tup [V.int .i64 5]) else must (decide (y4.size ≤
 9223372036854775807) && true) (bif !strEq { data := (trimL y4.data.toList [97, 98, 99, 100, 101, 102, 103, 104, 105, 106, 107, 108, 109, 110, 111, 112, 113, 114, 115, 116, 117, 118, 119, 120, 121,
 122, 48, 49, 50, 51, 52, 53, 54, 55, 56, 57]).toArray } { data := #[] } then some (V.tup [V.int .i64 5]) else some (V.tup [V.int .i64 0]))
theorem e32 (k m q0 q1 : Nat) (y1 : Int) (y2 : Int) (y3 : Int) (y4 : ByteArray) : runV C (k + 1) 32 [V.agg [V.int .i64 y1, V.int .i64 y2, V.int .i64 y3, V.str y4]] = T32 (orc C k) k m q0 q1 y1 y2 y3 y4
 := by kernel_rfl
theorem E32 (y1 : Int) (y2 : Int) (y3 : Int) (y4 : ByteArray) {r : V} (h : T32 (orcE C) 0 0 0 0 y1 y2 y3 y4 = some r) : runE C 32 [V.agg [V.int .i64 y1, V.int .i64 y2, V.int .i64 y3, V.str y4]] = some
 r := ofR (F := fun s => T32 (orc C s.k) s.k s.m 0 0 y1 y2 y3 y4) (fun k => e32 k k 0 0 y1 y2 y3 y4) (by
  unfold T32
  repeat' first | with_reducible exact cC | with_reducible refine cN cR fun _ => ?_ | with_reducible refine cT fun _ => ?_ | with_reducible refine cM ?_ | with_reducible refine cF ?_ ?_ | with_reducible refine cB fun _ => ?_ | with_reducible refine cN cC fun _ => ?_ | with_reducible exact cR) h

noncomputable def T49 (O : Orc) (k m q0 q1 : Nat) (y1 : Nat) (y2 : List V) (y3 : Int) : Option V := O.L 0 49 0 [true, true, true, false] [] k [(0, V.sl y1 y2), (1, V.int .i64 y3), (6, V.int .i64 (↑y1 :
 Int)), (7, V.int .i64 0), (8, V.int .i64 (↑y1 : Int))] []
theorem e49 (k m q0 q1 : Nat) (y1 : Nat) (y2 : List V) (y3 : Int) : runV C (k + 1) 49 [V.sl y1 y2, V.int .i64 y3] = T49 (orc C k) k m q0 q1 y1 y2 y3 := by kernel_rfl
theorem E49 (y1 : Nat) (y2 : List V) (y3 : Int) {r : V} (h : T49 (orcE C) 0 0 0 0 y1 y2 y3 = some r) : runE C 49 [V.sl y1 y2, V.int .i64 y3] = some r := ofR (F := fun s => T49 (orc C s.k) s.k s.m 0 0
 y1 y2 y3) (fun k => e49 k k 0 0 y1 y2 y3) (by
  unfold T49
  repeat' first | with_reducible exact cC | exact cD0 gK) h

noncomputable def T33 (O : Orc) (k m q0 q1 : Nat) (y1 : Int) (y2 : Int) (y3 : Int) (y4 : Int) (y5 : Nat) (y6 : List V) (y7 : Int) (y8 : Bool) : Option V := need (O.R 0 55 [V.sl y5 y6]) fun x1 => asTup
 (some x1) fun x2 => asOsl x2[0]? fun x3 x4 => must (false || x4.all flatV) (some (V.tup [V.int .i64 y1, V.int .i64 y2, V.int .i64 y3, V.int .i64 y4, V.osl x3 x4, V.int .i64 y7, V.bool y8]))
theorem e33 (k m q0 q1 : Nat) (y1 : Int) (y2 : Int) (y3 : Int) (y4 : Int) (y5 : Nat) (y6 : List V) (y7 : Int) (y8 : Bool) : runV C (k + 1) 33 [V.agg [V.int .i64 y1, V.int .i64 y2, V.int .i64 y3, V.int
 .i64 y4, V.sl y5 y6, V.int .i64 y7, V.bool y8]] = T33 (orc C k) k m q0 q1 y1 y2 y3 y4 y5 y6 y7 y8 := by kernel_rfl
theorem E33 (y1 : Int) (y2 : Int) (y3 : Int) (y4 : Int) (y5 : Nat) (y6 : List V) (y7 : Int) (y8 : Bool) {r : V} (h : T33 (orcE C) 0 0 0 0 y1 y2 y3 y4 y5 y6 y7 y8 = some r) : runE C 33 [V.agg [V.int
 .i64 y1, V.int .i64 y2, V.int .i64 y3, V.int .i64 y4, V.sl y5 y6, V.int .i64 y7, V.bool y8]] = some r := ofR (F := fun s => T33 (orc C s.k) s.k s.m 0 0 y1 y2 y3 y4 y5 y6 y7 y8) (fun k => e33 k k 0 0
 y1 y2 y3 y4 y5 y6 y7 y8) (by
  unfold T33
  repeat' first | with_reducible exact cC | with_reducible refine cN cR fun _ => ?_ | with_reducible refine cT fun _ => ?_ | with_reducible refine cM ?_ | with_reducible refine cO fun _ _ => ?_ | with_reducible refine cN cC fun _ => ?_ | with_reducible exact cR) h

noncomputable def T35 (O : Orc) (k m q0 q1 : Nat) (y1 : Int) (y2 : Int) (y3 : Int) (y4 : Int) (y5 : Nat) (y6 : List V) (y7 : Int) (y8 : Bool) : Option V := bif y1 == 1 then some (V.tup [V.int .i64
 (IntKind.i64.wrap (y2 - y3))]) else some (V.tup [V.int .i64 (IntKind.i64.wrap (y3 - y2))])
theorem e35 (k m q0 q1 : Nat) (y1 : Int) (y2 : Int) (y3 : Int) (y4 : Int) (y5 : Nat) (y6 : List V) (y7 : Int) (y8 : Bool) : runV C (k + 1) 35 [V.agg [V.int .i64 y1, V.int .i64 y2, V.int .i64 y3, V.int
 .i64 y4, V.sl y5 y6, V.int .i64 y7, V.bool y8]] = T35 (orc C k) k m q0 q1 y1 y2 y3 y4 y5 y6 y7 y8 := by kernel_rfl
theorem E35 (y1 : Int) (y2 : Int) (y3 : Int) (y4 : Int) (y5 : Nat) (y6 : List V) (y7 : Int) (y8 : Bool) {r : V} (h : T35 (orcE C) 0 0 0 0 y1 y2 y3 y4 y5 y6 y7 y8 = some r) : runE C 35 [V.agg [V.int
 .i64 y1, V.int .i64 y2, V.int .i64 y3, V.int .i64 y4, V.sl y5 y6, V.int .i64 y7, V.bool y8]] = some r := ofR (F := fun s => T35 (orc C s.k) s.k s.m 0 0 y1 y2 y3 y4 y5 y6 y7 y8) (fun k => e35 k k 0 0
 y1 y2 y3 y4 y5 y6 y7 y8) (by
  unfold T35
  repeat' first | with_reducible exact cC | with_reducible refine cF ?_ ?_) h

noncomputable def T34 (O : Orc) (k m q0 q1 : Nat) (y1 : Int) (y2 : Int) (y3 : Int) : Option V := bif decide (y2 ≤ y1) then some (V.tup [V.bool (decide (y1 ≤ y3))]) else some (V.tup [V.bool false])
theorem e34 (k m q0 q1 : Nat) (y1 : Int) (y2 : Int) (y3 : Int) : runV C (k + 1) 34 [V.int .i64 y1, V.int .i64 y2, V.int .i64 y3] = T34 (orc C k) k m q0 q1 y1 y2 y3 := by kernel_rfl
theorem E34 (y1 : Int) (y2 : Int) (y3 : Int) {r : V} (h : T34 (orcE C) 0 0 0 0 y1 y2 y3 = some r) : runE C 34 [V.int .i64 y1, V.int .i64 y2, V.int .i64 y3] = some r := ofR (F := fun s => T34 (orc C
 s.k) s.k s.m 0 0 y1 y2 y3) (fun k => e34 k k 0 0 y1 y2 y3) (by
  unfold T34
  repeat' first | with_reducible exact cC | with_reducible refine cF ?_ ?_) h

noncomputable def T36 (O : Orc) (k m q0 q1 : Nat) (y1 : Int) : Option V := need (O.R 0 34 [V.int .i64 y1, V.int .i64 0, V.int .i64 1000000000000000]) fun x1 => asTup (some x1) fun x2 => PI.asBool
 x2[0]? fun x3 => some (V.tup [V.bool x3])
theorem e36 (k m q0 q1 : Nat) (y1 : Int) : runV C (k + 1) 36 [V.int .i64 y1] = T36 (orc C k) k m q0 q1 y1 := by kernel_rfl
theorem E36 (y1 : Int) {r : V} (h : T36 (orcE C) 0 0 0 0 y1 = some r) : runE C 36 [V.int .i64 y1] = some r := ofR (F := fun s => T36 (orc C s.k) s.k s.m 0 0 y1) (fun k => e36 k k 0 0 y1) (by
  unfold T36
  repeat' first | with_reducible exact cC | with_reducible refine cN cR fun _ => ?_ | with_reducible refine cT fun _ => ?_ | with_reducible refine cB fun _ => ?_ | with_reducible refine cN cC fun _ => ?_ | with_reducible exact cR) h

noncomputable def T44 (O : Orc) (k m q0 q1 : Nat) (y1 : Int) (y2 : Int) (y3 : Int) (y4 : ByteArray) (y5 : Int) (y6 : Int) (y7 : Int) (y8 : ByteArray) : Option V := bif y1 != y5 then some (V.tup [V.bool
 false]) else bif y2 != y6 then some (V.tup [V.bool false]) else bif y3 != y7 then some (V.tup [V.bool false]) else bif !strEq y4 y8 then some (V.tup [V.bool false]) else some (V.tup [V.bool true])
theorem e44 (k m q0 q1 : Nat) (y1 : Int) (y2 : Int) (y3 : Int) (y4 : ByteArray) (y5 : Int) (y6 : Int) (y7 : Int) (y8 : ByteArray) : runV C (k + 1) 44 [V.agg [V.int .i64 y1, V.int .i64 y2, V.int .i64
 y3, V.str y4], V.agg [V.int .i64 y5, V.int .i64 y6, V.int .i64 y7, V.str y8]] = T44 (orc C k) k m q0 q1 y1 y2 y3 y4 y5 y6 y7 y8 := by kernel_rfl
theorem E44 (y1 : Int) (y2 : Int) (y3 : Int) (y4 : ByteArray) (y5 : Int) (y6 : Int) (y7 : Int) (y8 : ByteArray) {r : V} (h : T44 (orcE C) 0 0 0 0 y1 y2 y3 y4 y5 y6 y7 y8 = some r) : runE C 44 [V.agg
 [V.int .i64 y1, V.int .i64 y2, V.int .i64 y3, V.str y4], V.agg [V.int .i64 y5, V.int .i64 y6, V.int .i64 y7, V.str y8]] = some r := ofR (F := fun s => T44 (orc C s.k) s.k s.m 0 0 y1 y2 y3 y4 y5 y6 y7
 y8) (fun k => e44 k k 0 0 y1 y2 y3 y4 y5 y6 y7 y8) (by
  unfold T44
  repeat' first | with_reducible exact cC | with_reducible refine cF ?_ ?_) h

noncomputable def T45 (O : Orc) (k m q0 q1 : Nat) (y1 : Nat) (y2 : List V) (y3 : Nat) (y4 : List V) : Option V := bif (↑y1 : Int) != (↑y3 : Int) then some (V.tup [V.bool false]) else O.L 0 45 0 [true,
 true, false, true] [] k [(0, V.sl y1 y2), (1, V.sl y3 y4), (5, V.int .i64 0)] []
theorem e45 (k m q0 q1 : Nat) (y1 : Nat) (y2 : List V) (y3 : Nat) (y4 : List V) : runV C (k + 1) 45 [V.sl y1 y2, V.sl y3 y4] = T45 (orc C k) k m q0 q1 y1 y2 y3 y4 := by kernel_rfl
theorem E45 (y1 : Nat) (y2 : List V) (y3 : Nat) (y4 : List V) {r : V} (h : T45 (orcE C) 0 0 0 0 y1 y2 y3 y4 = some r) : runE C 45 [V.sl y1 y2, V.sl y3 y4] = some r := ofR (F := fun s => T45 (orc C s.k)
 s.k s.m 0 0 y1 y2 y3 y4) (fun k => e45 k k 0 0 y1 y2 y3 y4) (by
  unfold T45
  repeat' first | with_reducible exact cC | with_reducible refine cF ?_ ?_ | exact cD0 gK) h

noncomputable def T46 (O : Orc) (k m q0 q1 : Nat) (y1 : Int) (y2 : Nat) (y3 : List V) : Option V := O.X 0 46 [0] [Ob.row 2 0 [] false] 0 [true, false, true] [] k [(0, V.ref 0), (1, V.int .i64 y1), (5,
 V.int .i64 0)] [Ob.row 2 y2 y3 false]
theorem e46 (k m q0 q1 : Nat) (y1 : Int) (y2 : Nat) (y3 : List V) : runW C (k + 1) 46 [0] [V.ref 0, V.int .i64 y1] [Ob.row 2 y2 y3 false] = T46 (orc C k) k m q0 q1 y1 y2 y3 := by kernel_rfl
theorem E46 (y1 : Int) (y2 : Nat) (y3 : List V) {r : V} (h : T46 (orcE C) 0 0 0 0 y1 y2 y3 = some r) : runWE C 46 [0] [V.ref 0, V.int .i64 y1] [Ob.row 2 y2 y3 false] = some r := ofW (F := fun s => T46
 (orc C s.k) s.k s.m 0 0 y1 y2 y3) (fun k => e46 k k 0 0 y1 y2 y3) (by
  unfold T46
  repeat' first | with_reducible exact cC | exact cX0 gK) h

noncomputable def T47 (O : Orc) (k m q0 q1 : Nat) (y1 : Int) (y2 : Int) (y3 : Int) (y4 : Int) (y5 : Nat) (y6 : List V) (y7 : Int) (y8 : Bool) (y9 : Int) : Option V := need (O.R 0 60 [V.sl y5 y6, V.int
 .i64 y9]) fun x1 => asTup (some x1) fun x2 => PI.asInt .i64 x2[0]? fun x3 => bif decide (x3 < 0) then some (V.tup [V.int .i64 (-1)]) else some (V.tup [V.int .i64 x3])
theorem e47 (k m q0 q1 : Nat) (y1 : Int) (y2 : Int) (y3 : Int) (y4 : Int) (y5 : Nat) (y6 : List V) (y7 : Int) (y8 : Bool) (y9 : Int) : runV C (k + 1) 47 [V.agg [V.int .i64 y1, V.int .i64 y2, V.int .i64
 y3, V.int .i64 y4, V.sl y5 y6, V.int .i64 y7, V.bool y8], V.int .i64 y9] = T47 (orc C k) k m q0 q1 y1 y2 y3 y4 y5 y6 y7 y8 y9 := by kernel_rfl
theorem E47 (y1 : Int) (y2 : Int) (y3 : Int) (y4 : Int) (y5 : Nat) (y6 : List V) (y7 : Int) (y8 : Bool) (y9 : Int) {r : V} (h : T47 (orcE C) 0 0 0 0 y1 y2 y3 y4 y5 y6 y7 y8 y9 = some r) : runE C 47
 [V.agg [V.int .i64 y1, V.int .i64 y2, V.int .i64 y3, V.int .i64 y4, V.sl y5 y6, V.int .i64 y7, V.bool y8], V.int .i64 y9] = some r := ofR (F := fun s => T47 (orc C s.k) s.k s.m 0 0 y1 y2 y3 y4 y5 y6
 y7 y8 y9) (fun k => e47 k k 0 0 y1 y2 y3 y4 y5 y6 y7 y8 y9) (by
  unfold T47
  repeat' first | with_reducible exact cC | with_reducible refine cN cR fun _ => ?_ | with_reducible refine cT fun _ => ?_ | with_reducible refine cI fun _ => ?_ | with_reducible refine cF ?_ ?_ | with_reducible refine cN cC fun _ => ?_ | with_reducible exact cR) h

noncomputable def T28 (O : Orc) (k m q0 q1 : Nat) (y1 : Nat) (y2 : List V) (y3 : Int) : Option V := need (O.W 0 52 [] [V.ptr 0 0, V.int .i64 2] [Ob.box 80 [V.sl y1 y2, V.int .i64 y3] false]) fun x1 =>
 asTup (some x1) fun x2 => PI.asInt .i64 x2[0]? fun x3 => asSl x2[1]? fun x4 x5 => PI.asInt .i64 x2[2]? fun x6 => need (O.W 0 52 [] [V.ptr 0 0, V.int .i64 9] [Ob.box 80 [V.sl x4 x5, V.int .i64 x6]
 false]) fun x7 => asTup (some x7) fun x8 => PI.asInt .i64 x8[0]? fun x9 => asSl x8[1]? fun x10 x11 => PI.asInt .i64 x8[2]? fun x12 => need (O.W 0 30 [] [V.ptr 0 0, V.sl 4 [V.int .i64 100, V.int .i64
 1000, V.int .i64 60, V.int .i64 1000000000000000]] [Ob.box 80 [V.sl x10 x11, V.int .i64 x12] false]) fun x13 => asTup (some x13) fun x14 => PI.asInt .i64 x14[0]? fun x15 => asSl x14[1]? fun x16 x17 =>
 PI.asInt .i64 x14[2]? fun x18 => need (O.W 0 52 [] [V.ptr 0 0, V.int .i64 60] [Ob.box 80 [V.sl x16 x17, V.int .i64 x18] false]) fun x19 => asTup (some x19) fun x20 => PI.asInt .i64 x20[0]? fun x21 =>
 asSl x20[1]? fun x22 x23 => PI.asInt .i64 x20[2]? fun x24 => need (O.W 0 52 [] [V.ptr 0 0, V.int .i64 (IntKind.i64.wrap (x21 + 1))] [Ob.box 80 [V.sl x22 x23, V.int .i64 x24] false]) fun x25 => asTup
 (some x25) fun x26 => PI.asInt .i64 x26[0]? fun x27 => asSl x26[1]? fun x28 x29 => PI.asInt .i64 x26[2]? fun x30 => bif IntKind.i64.wrap (1 + x3) == 2 then O.X 0 28 [] [Ob.box 80 [V.u, V.u] false] 0
 [true, true, true, true, true, true, true, false, true] [] k [(0, V.ptr 0 0), (2, V.ptr 1 0), (3, V.ptr 3 0), (6, V.int .i64 1)] [Ob.box 80 [V.sl x28 x29, V.int .i64 x30] false, Ob.box 26 [V.int .i64
 0, V.int .i64 0, V.int .i64 0, V.int .i64 0, V.ref 2, V.int .i64 0, V.bool false] false, Ob.row 2 0 [] false, Ob.box 26 [V.int .i64 (IntKind.i64.wrap (1 + x3)), V.int .i64 x27, V.int .i64 x21, V.int
 .i64 (IntKind.i64.wrap (1 + x9)), V.ref 4, V.int .i64 x15, V.bool false] false, Ob.row 2 0 [] false] else O.X 0 28 [] [Ob.box 80 [V.u, V.u] false] 0 [true, true, true, true, true, true, true, false,
 true] [] k [(0, V.ptr 0 0), (2, V.ptr 1 0), (3, V.ptr 3 0), (6, V.int .i64 1)] [Ob.box 80 [V.sl x28 x29, V.int .i64 x30] false, Ob.box 26 [V.int .i64 0, V.int .i64 0, V.int .i64 0, V.int .i64 0, V.ref
 2, V.int .i64 0, V.bool false] false, Ob.row 2 0 [] false, Ob.box 26 [V.int .i64 (IntKind.i64.wrap (1 + x3)), V.int .i64 x21, V.int .i64 x27, V.int .i64 (IntKind.i64.wrap (1 + x9)), V.ref 4, V.int
 .i64 x15, V.bool false] false, Ob.row 2 0 [] false]
theorem e28 (k m q0 q1 : Nat) (y1 : Nat) (y2 : List V) (y3 : Int) : runW C (k + 1) 28 [] [V.ptr 0 0] [Ob.box 80 [V.sl y1 y2, V.int .i64 y3] false] = T28 (orc C k) k m q0 q1 y1 y2 y3 := by kernel_rfl
theorem E28 (y1 : Nat) (y2 : List V) (y3 : Int) {r : V} (h : T28 (orcE C) 0 0 0 0 y1 y2 y3 = some r) : runWE C 28 [] [V.ptr 0 0] [Ob.box 80 [V.sl y1 y2, V.int .i64 y3] false] = some r := ofW (F := fun
 s => T28 (orc C s.k) s.k s.m 0 0 y1 y2 y3) (fun k => e28 k k 0 0 y1 y2 y3) (by
  unfold T28
  repeat' first | with_reducible exact cC | with_reducible refine cN cQ fun _ => ?_ | with_reducible refine cT fun _ => ?_ | with_reducible refine cI fun _ => ?_ | with_reducible refine cF ?_ ?_ | with_reducible refine cL fun _ _ => ?_ | with_reducible refine cN cC fun _ => ?_ | with_reducible exact cQ | exact cX0 gK) h

noncomputable def T29 (O : Orc) (k m q0 q1 : Nat) (y1 : Nat) (y2 : List V) (y3 : Int) : Option V := need (O.W 0 52 [] [V.ptr 0 0, V.int .i64 2] [Ob.box 80 [V.sl y1 y2, V.int .i64 y3] false]) fun x1 =>
 asTup (some x1) fun x2 => PI.asInt .i64 x2[0]? fun x3 => asSl x2[1]? fun x4 x5 => PI.asInt .i64 x2[2]? fun x6 => need (O.W 0 52 [] [V.ptr 0 0, V.int .i64 6] [Ob.box 80 [V.sl x4 x5, V.int .i64 x6]
 false]) fun x7 => asTup (some x7) fun x8 => PI.asInt .i64 x8[0]? fun x9 => asSl x8[1]? fun x10 x11 => PI.asInt .i64 x8[2]? fun x12 => need (O.W 0 52 [] [V.ptr 0 0, V.int .i64 60] [Ob.box 80 [V.sl x10
 x11, V.int .i64 x12] false]) fun x13 => asTup (some x13) fun x14 => PI.asInt .i64 x14[0]? fun x15 => asSl x14[1]? fun x16 x17 => PI.asInt .i64 x14[2]? fun x18 => need (O.W 0 53 [] [V.ptr 0 0] [Ob.box
 80 [V.sl x16 x17, V.int .i64 x18] false]) fun x19 => asTup (some x19) fun x20 => asStr x20[0]? fun x21 => asSl x20[1]? fun x22 x23 => PI.asInt .i64 x20[2]? fun x24 => need (O.W 0 52 [] [V.ptr 0 0,
 V.int .i64 20] [Ob.box 80 [V.sl x22 x23, V.int .i64 x24] false]) fun x25 => asTup (some x25) fun x26 => PI.asInt .i64 x26[0]? fun x27 => asSl x26[1]? fun x28 x29 => PI.asInt .i64 x26[2]? fun x30 =>
 bif x27 == 0 then need (O.W 0 30 [] [V.ptr 0 0, V.sl 3 [V.int .i64 0, V.int .i64 3, V.int .i64 (-1)]] [Ob.box 80 [V.sl x28 x29, V.int .i64 x30] false]) fun x31 => asTup (some x31) fun x32 => PI.asInt
 .i64 x32[0]? fun x33 => asSl x32[1]? fun x34 x35 => PI.asInt .i64 x32[2]? fun x36 => some (V.tup [V.int .i64 x33, V.int .i64 (IntKind.i64.wrap (1 + x9)), V.int .i64 (IntKind.i64.wrap (1 + x15)), V.str
 x21, V.sl x34 x35, V.int .i64 x36]) else bif x27 == 1 then need (O.W 0 30 [] [V.ptr 0 0, V.sl 3 [V.int .i64 0, V.int .i64 1000000, V.int .i64 1000001]] [Ob.box 80 [V.sl x28 x29, V.int .i64 x30]
 false]) fun x37 => asTup (some x37) fun x38 => PI.asInt .i64 x38[0]? fun x39 => asSl x38[1]? fun x40 x41 => PI.asInt .i64 x38[2]? fun x42 => some (V.tup [V.int .i64 (IntKind.i64.wrap (1 + x3)), V.int
 .i64 x39, V.int .i64 (IntKind.i64.wrap (1 + x15)), V.str x21, V.sl x40 x41, V.int .i64 x42]) else bif x27 == 2 then need (O.W 0 30 [] [V.ptr 0 0, V.sl 3 [V.int .i64 0, V.int .i64 1000000000, V.int
 .i64 1000000001]] [Ob.box 80 [V.sl x28 x29, V.int .i64 x30] false]) fun x43 => asTup (some x43) fun x44 => PI.asInt .i64 x44[0]? fun x45 => asSl x44[1]? fun x46 x47 => PI.asInt .i64 x44[2]? fun x48 =>
 some (V.tup [V.int .i64 (IntKind.i64.wrap (1 + x3)), V.int .i64 (IntKind.i64.wrap (1 + x9)), V.int .i64 x45, V.str x21, V.sl x46 x47, V.int .i64 x48]) else bif x27 == 3 then need (O.W 0 52 [] [V.ptr 0
 0, V.int .i64 5] [Ob.box 80 [V.sl x28 x29, V.int .i64 x30] false]) fun x49 => asTup (some x49) fun x50 => PI.asInt .i64 x50[0]? fun x51 => asSl x50[1]? fun x52 x53 => PI.asInt .i64 x50[2]? fun x54 =>
 must (inB x51 5) (asStr [V.str { data := #[] }, V.str { data := #[OfNat.ofNat 65] }, V.str { data := #[OfNat.ofNat 97, OfNat.ofNat 98, OfNat.ofNat 99, OfNat.ofNat 100, OfNat.ofNat 101, OfNat.ofNat
 102, OfNat.ofNat 103, OfNat.ofNat 104, OfNat.ofNat 105, OfNat.ofNat 106, OfNat.ofNat 107, OfNat.ofNat 108, OfNat.ofNat 109] }, V.str { data := #[OfNat.ofNat 97, OfNat.ofNat 98, OfNat.ofNat 99,
 OfNat.ofNat 100, OfNat.ofNat 101, OfNat.ofNat 102, OfNat.ofNat 103, OfNat.ofNat 104, OfNat.ofNat 105, OfNat.ofNat 106, OfNat.ofNat 107, OfNat.ofNat 108] }, V.str { data := #[OfNat.ofNat 97,
 OfNat.ofNat 32, OfNat.ofNat 98] }][x51.toNat * 1]? fun x55 => some (V.tup [V.int .i64 (IntKind.i64.wrap (1 + x3)), V.int .i64 (IntKind.i64.wrap (1 + x9)), V.int .i64 (IntKind.i64.wrap (1 + x15)),
 V.str x55, V.sl x52 x53, V.int .i64 x54])) else some (V.tup [V.int .i64 (IntKind.i64.wrap (1 + x3)), V.int .i64 (IntKind.i64.wrap (1 + x9)), V.int .i64 (IntKind.i64.wrap (1 + x15)), V.str x21, V.sl
 x28 x29, V.int .i64 x30])
theorem e29 (k m q0 q1 : Nat) (y1 : Nat) (y2 : List V) (y3 : Int) : runW C (k + 1) 29 [] [V.ptr 0 0] [Ob.box 80 [V.sl y1 y2, V.int .i64 y3] false] = T29 (orc C k) k m q0 q1 y1 y2 y3 := by kernel_rfl
theorem E29 (y1 : Nat) (y2 : List V) (y3 : Int) {r : V} (h : T29 (orcE C) 0 0 0 0 y1 y2 y3 = some r) : runWE C 29 [] [V.ptr 0 0] [Ob.box 80 [V.sl y1 y2, V.int .i64 y3] false] = some r := ofW (F := fun
 s => T29 (orc C s.k) s.k s.m 0 0 y1 y2 y3) (fun k => e29 k k 0 0 y1 y2 y3) (by
  unfold T29
  repeat' first | with_reducible exact cC | with_reducible refine cN cQ fun _ => ?_ | with_reducible refine cT fun _ => ?_ | with_reducible refine cI fun _ => ?_ | with_reducible refine cM ?_ | with_reducible refine cF ?_ ?_ | with_reducible refine cS fun _ => ?_ | with_reducible refine cL fun _ _ => ?_ | with_reducible refine cN cC fun _ => ?_ | with_reducible exact cQ) h

noncomputable def T48 (O : Orc) (k m q0 q1 : Nat) (y1 : Int) (y2 : Nat) (y3 : List V) (y4 : Int) : Option V := need (O.W 0 52 [] [V.ptr 0 0, V.int .i64 y1] [Ob.box 80 [V.sl y2 y3, V.int .i64 y4]
 false]) fun x1 => asTup (some x1) fun x2 => PI.asInt .i64 x2[0]? fun x3 => asSl x2[1]? fun x4 x5 => PI.asInt .i64 x2[2]? fun x6 => some (V.tup [V.bool (x3 == 0), V.sl x4 x5, V.int .i64 x6])
theorem e48 (k m q0 q1 : Nat) (y1 : Int) (y2 : Nat) (y3 : List V) (y4 : Int) : runW C (k + 1) 48 [] [V.ptr 0 0, V.int .i64 y1] [Ob.box 80 [V.sl y2 y3, V.int .i64 y4] false] = T48 (orc C k) k m q0 q1 y1
 y2 y3 y4 := by kernel_rfl
theorem E48 (y1 : Int) (y2 : Nat) (y3 : List V) (y4 : Int) {r : V} (h : T48 (orcE C) 0 0 0 0 y1 y2 y3 y4 = some r) : runWE C 48 [] [V.ptr 0 0, V.int .i64 y1] [Ob.box 80 [V.sl y2 y3, V.int .i64 y4]
 false] = some r := ofW (F := fun s => T48 (orc C s.k) s.k s.m 0 0 y1 y2 y3 y4) (fun k => e48 k k 0 0 y1 y2 y3 y4) (by
  unfold T48
  repeat' first | with_reducible exact cC | with_reducible refine cN cQ fun _ => ?_ | with_reducible refine cT fun _ => ?_ | with_reducible refine cI fun _ => ?_ | with_reducible refine cL fun _ _ => ?_ | with_reducible refine cN cC fun _ => ?_ | with_reducible exact cQ) h

noncomputable def T40 (O : Orc) (k m q0 q1 : Nat) (y1 : Int) : Option V := bif y1 == 1 then some (V.tup [V.bool true]) else some (V.tup [V.bool (y1 == 2)])
theorem e40 (k m q0 q1 : Nat) (y1 : Int) : runV C (k + 1) 40 [V.int .i64 y1] = T40 (orc C k) k m q0 q1 y1 := by kernel_rfl
theorem E40 (y1 : Int) {r : V} (h : T40 (orcE C) 0 0 0 0 y1 = some r) : runE C 40 [V.int .i64 y1] = some r := ofR (F := fun s => T40 (orc C s.k) s.k s.m 0 0 y1) (fun k => e40 k k 0 0 y1) (by
  unfold T40
  repeat' first | with_reducible exact cC | with_reducible refine cF ?_ ?_) h

noncomputable def T12l1 (O : Orc) (k m q0 q1 : Nat) (y1 : Nat) (y2 : List V) (y3 : Int) (y4 : Int) (y5 : Int) (y6 : Int) (y7 : Int) (y8 : Int) (y9 : Nat) (y10 : List V) (y11 : Int) (y12 : Bool) :
 Option V := bif decide (y4 < y3) then must (inB y4 y1) (PI.asInt .i64 y2[y4.toNat * 1]? fun x1 => need (O.R 0 41 [V.int .i64 x1]) fun x2 => asTup (some x2) fun x3 => PI.asBool x3[0]? fun x4 => bif !x4
 then some (V.tup [V.int .i64 1]) else bif decide (y4 > 0) then must (inB (IntKind.i64.wrap (y4 - 1)) y9) (PI.asInt .i64 y10[(IntKind.i64.wrap (y4 - 1)).toNat * 1]? fun x5 => bif decide (x5 ≥ x1) then
 some (V.tup [V.int .i64 1]) else O.L 0 12 1 [true, true, false, true] [] m [(1, V.ptr 0 0), (39, V.sl y1 y2), (40, V.int .i64 y3), (41, V.int .i64 (IntKind.i64.wrap (y4 + 1)))] [Ob.box 26 [V.int .i64
 y5, V.int .i64 y6, V.int .i64 y7, V.int .i64 y8, V.sl y9 y10, V.int .i64 y11, V.bool y12] false]) else O.L 0 12 1 [true, true, false, true] [] m [(1, V.ptr 0 0), (39, V.sl y1 y2), (40, V.int .i64 y3),
 (41, V.int .i64 (IntKind.i64.wrap (y4 + 1)))] [Ob.box 26 [V.int .i64 y5, V.int .i64 y6, V.int .i64 y7, V.int .i64 y8, V.sl y9 y10, V.int .i64 y11, V.bool y12] false]) else need (O.R 0 35 [V.agg [V.int
 .i64 y5, V.int .i64 y6, V.int .i64 y7, V.int .i64 y8, V.sl y9 y10, V.int .i64 y11, V.bool y12]]) fun x6 => asTup (some x6) fun x7 => PI.asInt .i64 x7[0]? fun x8 => need (O.R 0 34 [V.int .i64 x8, V.int
 .i64 0, V.int .i64 y11]) fun x9 => asTup (some x9) fun x10 => PI.asBool x10[0]? fun x11 => bif !x11 then some (V.tup [V.int .i64 1]) else some (V.tup [V.int .i64 0])
theorem e12l1 (k m q0 q1 : Nat) (y1 : Nat) (y2 : List V) (y3 : Int) (y4 : Int) (y5 : Int) (y6 : Int) (y7 : Int) (y8 : Int) (y9 : Nat) (y10 : List V) (y11 : Int) (y12 : Bool) : runL C k 12 1 [true,
 true, false, true] [] (m + 1) [(1, V.ptr 0 0), (39, V.sl y1 y2), (40, V.int .i64 y3), (41, V.int .i64 y4)] [Ob.box 26 [V.int .i64 y5, V.int .i64 y6, V.int .i64 y7, V.int .i64 y8, V.sl y9 y10, V.int
 .i64 y11, V.bool y12] false] = T12l1 (orc C k) k m q0 q1 y1 y2 y3 y4 y5 y6 y7 y8 y9 y10 y11 y12 := by kernel_rfl
theorem E12l1 (y1 : Nat) (y2 : List V) (y3 : Int) (y4 : Int) (y5 : Int) (y6 : Int) (y7 : Int) (y8 : Int) (y9 : Nat) (y10 : List V) (y11 : Int) (y12 : Bool) {r : V} (h : T12l1 (orcE C) 0 0 0 0 y1 y2 y3
 y4 y5 y6 y7 y8 y9 y10 y11 y12 = some r) : loopE C 12 1 [true, true, false, true] [] [(1, V.ptr 0 0), (39, V.sl y1 y2), (40, V.int .i64 y3), (41, V.int .i64 y4)] [Ob.box 26 [V.int .i64 y5, V.int .i64
 y6, V.int .i64 y7, V.int .i64 y8, V.sl y9 y10, V.int .i64 y11, V.bool y12] false] = some r := ofL (j := 0) (F := fun s => T12l1 (orc C s.k) s.k s.m 0 0 y1 y2 y3 y4 y5 y6 y7 y8 y9 y10 y11 y12) (fs0 fun
 k m => e12l1 k m 0 0 y1 y2 y3 y4 y5 y6 y7 y8 y9 y10 y11 y12) (by
  unfold T12l1
  repeat' first | with_reducible exact cC | with_reducible refine cN cR fun _ => ?_ | with_reducible refine cT fun _ => ?_ | with_reducible refine cI fun _ => ?_ | with_reducible refine cM ?_ | with_reducible refine cF ?_ ?_ | with_reducible refine cB fun _ => ?_ | with_reducible refine cN cC fun _ => ?_ | with_reducible exact cR | exact cD0 gM) h

noncomputable def T24l1 (O : Orc) (k m q0 q1 : Nat) (y1 : Nat) (y2 : List V) (y3 : Int) (y4 : Int) : Option V := bif decide (y4 < (↑y1 : Int)) then must (inB y4 y1) (PI.asInt .i64 y2[y4.toNat * 1]? fun
 x1 => bif x1 == y3 then some (V.tup [V.bool true]) else O.L 0 24 0 [true, false, true] [] m [(0, V.sl y1 y2), (1, V.int .i64 y3), (5, V.int .i64 (IntKind.i64.wrap (y4 + 1)))] []) else some (V.tup
 [V.bool false])
theorem e24l1 (k m q0 q1 : Nat) (y1 : Nat) (y2 : List V) (y3 : Int) (y4 : Int) : runL C k 24 0 [true, false, true] [] (m + 1) [(0, V.sl y1 y2), (1, V.int .i64 y3), (5, V.int .i64 y4)] [] = T24l1 (orc C
 k) k m q0 q1 y1 y2 y3 y4 := by kernel_rfl
theorem E24l1 (y1 : Nat) (y2 : List V) (y3 : Int) (y4 : Int) {r : V} (h : T24l1 (orcE C) 0 0 0 0 y1 y2 y3 y4 = some r) : loopE C 24 0 [true, false, true] [] [(0, V.sl y1 y2), (1, V.int .i64 y3), (5,
 V.int .i64 y4)] [] = some r := ofL (j := 0) (F := fun s => T24l1 (orc C s.k) s.k s.m 0 0 y1 y2 y3 y4) (fs0 fun k m => e24l1 k m 0 0 y1 y2 y3 y4) (by
  unfold T24l1
  repeat' first | with_reducible exact cC | with_reducible refine cI fun _ => ?_ | with_reducible refine cM ?_ | with_reducible refine cF ?_ ?_ | exact cD0 gM) h

noncomputable def T43l1 (O : Orc) (k m q0 q1 : Nat) (y1 : Nat) (y2 : List V) (y3 : Int) (y4 : Nat) (y5 : List V) : Option V := bif decide (y3 < (↑y1 : Int)) then must (inB y3 y1) (PI.asInt .i64
 y2[y3.toNat * 1]? fun x1 => must (inB y3 y4) (must ([V.int .i64 x1].length.beq 1 && (y3.toNat * 1 + [V.int .i64 x1].length).ble y5.length) (O.L 0 43 0 [true, true, false, true] [] m [(0, V.sl y1 y2),
 (3, V.ref 0), (4, V.int .i64 (IntKind.i64.wrap (y3 + 1)))] [Ob.row 2 y4 (splice y5 (y3.toNat * 1) [V.int .i64 x1]) false]))) else must (false || y5.all flatV) (some (V.tup [V.osl y4 y5]))
theorem e43l1 (k m q0 q1 : Nat) (y1 : Nat) (y2 : List V) (y3 : Int) (y4 : Nat) (y5 : List V) : runL C k 43 0 [true, true, false, true] [] (m + 1) [(0, V.sl y1 y2), (3, V.ref 0), (4, V.int .i64 y3)]
 [Ob.row 2 y4 y5 false] = T43l1 (orc C k) k m q0 q1 y1 y2 y3 y4 y5 := by kernel_rfl
theorem E43l1 (y1 : Nat) (y2 : List V) (y3 : Int) (y4 : Nat) (y5 : List V) {r : V} (h : T43l1 (orcE C) 0 0 0 0 y1 y2 y3 y4 y5 = some r) : loopE C 43 0 [true, true, false, true] [] [(0, V.sl y1 y2), (3,
 V.ref 0), (4, V.int .i64 y3)] [Ob.row 2 y4 y5 false] = some r := ofL (j := 0) (F := fun s => T43l1 (orc C s.k) s.k s.m 0 0 y1 y2 y3 y4 y5) (fs0 fun k m => e43l1 k m 0 0 y1 y2 y3 y4 y5) (by
  unfold T43l1
  repeat' first | with_reducible exact cC | with_reducible refine cI fun _ => ?_ | with_reducible refine cM ?_ | with_reducible refine cF ?_ ?_ | exact cD0 gM) h

noncomputable def T56 (O : Orc) (k m q0 q1 : Nat) (y1 : Int) : Option V := bif y1 == 1 then some (V.tup [V.bool true]) else some (V.tup [V.bool (y1 == 2)])
theorem e56 (k m q0 q1 : Nat) (y1 : Int) : runV C (k + 1) 56 [V.int .i64 y1] = T56 (orc C k) k m q0 q1 y1 := by kernel_rfl
theorem E56 (y1 : Int) {r : V} (h : T56 (orcE C) 0 0 0 0 y1 = some r) : runE C 56 [V.int .i64 y1] = some r := ofR (F := fun s => T56 (orc C s.k) s.k s.m 0 0 y1) (fun k => e56 k k 0 0 y1) (by
  unfold T56
  repeat' first | with_reducible exact cC | with_reducible refine cF ?_ ?_) h

noncomputable def T57 (O : Orc) (k m q0 q1 : Nat) (y1 : Int) (y2 : Int) (y3 : Int) : Option V := bif decide (y1 ≥ y2) then some (V.tup [V.bool (decide (y1 ≤ y3))]) else some (V.tup [V.bool false])
theorem e57 (k m q0 q1 : Nat) (y1 : Int) (y2 : Int) (y3 : Int) : runV C (k + 1) 57 [V.int .i64 y1, V.int .i64 y2, V.int .i64 y3] = T57 (orc C k) k m q0 q1 y1 y2 y3 := by kernel_rfl
theorem E57 (y1 : Int) (y2 : Int) (y3 : Int) {r : V} (h : T57 (orcE C) 0 0 0 0 y1 y2 y3 = some r) : runE C 57 [V.int .i64 y1, V.int .i64 y2, V.int .i64 y3] = some r := ofR (F := fun s => T57 (orc C
 s.k) s.k s.m 0 0 y1 y2 y3) (fun k => e57 k k 0 0 y1 y2 y3) (by
  unfold T57
  repeat' first | with_reducible exact cC | with_reducible refine cF ?_ ?_) h

noncomputable def T37l1 (O : Orc) (k m q0 q1 : Nat) (y1 : Int) (y2 : Int) (y3 : Int) (y4 : Int) (y5 : Int) (y6 : Nat) (y7 : List V) (y8 : Int) (y9 : Bool) : Option V := bif decide (y1 < (↑y6 : Int))
 then must (inB y1 y6) (PI.asInt .i64 y7[y1.toNat * 1]? fun x1 => need (O.R 0 57 [V.int .i64 x1, V.int .i64 1, V.int .i64 1000000]) fun x2 => asTup (some x2) fun x3 => PI.asBool x3[0]? fun x4 => bif
 !x4 then both (some (V.tup [V.int .i64 1])) (some (V.tup [V.int .i64 1])) else bif decide (y1 > 0) then must (inB y1 y6) (must (inB (IntKind.i64.wrap (y1 - 1)) y6) (both (PI.asInt .i64 y7[y1.toNat *
 1]? fun x5 => PI.asInt .i64 y7[(IntKind.i64.wrap (y1 - 1)).toNat * 1]? fun x6 => bif decide (x5 ≤ x6) then some (V.tup [V.int .i64 1]) else O.L 0 37 0 [true, true, true, true, false, true] [] m [(1,
 V.ptr 0 0), (3, V.int .i64 (IntKind.i64.wrap (y1 + 1)))] [Ob.box 26 [V.int .i64 y2, V.int .i64 y3, V.int .i64 y4, V.int .i64 y5, V.sl y6 y7, V.int .i64 y8, V.bool y9] false]) (PI.asInt .i64
 y7[(IntKind.i64.wrap (y1 - 1)).toNat * 1]? fun x7 => PI.asInt .i64 y7[y1.toNat * 1]? fun x8 => bif decide (x8 ≤ x7) then some (V.tup [V.int .i64 1]) else O.L 0 37 0 [true, true, true, true, false,
 true] [] m [(1, V.ptr 0 0), (3, V.int .i64 (IntKind.i64.wrap (y1 + 1)))] [Ob.box 26 [V.int .i64 y2, V.int .i64 y3, V.int .i64 y4, V.int .i64 y5, V.sl y6 y7, V.int .i64 y8, V.bool y9] false]))) else
 both (O.L 0 37 0 [true, true, true, true, false, true] [] m [(1, V.ptr 0 0), (3, V.int .i64 (IntKind.i64.wrap (y1 + 1)))] [Ob.box 26 [V.int .i64 y2, V.int .i64 y3, V.int .i64 y4, V.int .i64 y5, V.sl
 y6 y7, V.int .i64 y8, V.bool y9] false]) (O.L 0 37 0 [true, true, true, true, false, true] [] m [(1, V.ptr 0 0), (3, V.int .i64 (IntKind.i64.wrap (y1 + 1)))] [Ob.box 26 [V.int .i64 y2, V.int .i64 y3,
 V.int .i64 y4, V.int .i64 y5, V.sl y6 y7, V.int .i64 y8, V.bool y9] false])) else need (O.R 0 31 [V.pin [V.int .i64 y2, V.int .i64 y3, V.int .i64 y4, V.int .i64 y5, V.sl y6 y7, V.int .i64 y8, V.bool
 y9] 0]) fun x9 => asTup (some x9) fun x10 => PI.asInt .i64 x10[0]? fun x11 => need (O.R 0 57 [V.int .i64 x11, V.int .i64 0, V.int .i64 y8]) fun x12 => asTup (some x12) fun x13 => PI.asBool x13[0]? fun
 x14 => bif !x14 then some (V.tup [V.int .i64 1]) else some (V.tup [V.int .i64 0])
theorem e37l1 (k m q0 q1 : Nat) (y1 : Int) (y2 : Int) (y3 : Int) (y4 : Int) (y5 : Int) (y6 : Nat) (y7 : List V) (y8 : Int) (y9 : Bool) : runL C k 37 0 [true, true, true, true, false, true] [] (m + 1)
 [(1, V.ptr 0 0), (3, V.int .i64 y1)] [Ob.box 26 [V.int .i64 y2, V.int .i64 y3, V.int .i64 y4, V.int .i64 y5, V.sl y6 y7, V.int .i64 y8, V.bool y9] false] = T37l1 (orc C k) k m q0 q1 y1 y2 y3 y4 y5 y6
 y7 y8 y9 := by kernel_rfl
theorem E37l1 (y1 : Int) (y2 : Int) (y3 : Int) (y4 : Int) (y5 : Int) (y6 : Nat) (y7 : List V) (y8 : Int) (y9 : Bool) {r : V} (h : T37l1 (orcE C) 0 0 0 0 y1 y2 y3 y4 y5 y6 y7 y8 y9 = some r) : loopE C
 37 0 [true, true, true, true, false, true] [] [(1, V.ptr 0 0), (3, V.int .i64 y1)] [Ob.box 26 [V.int .i64 y2, V.int .i64 y3, V.int .i64 y4, V.int .i64 y5, V.sl y6 y7, V.int .i64 y8, V.bool y9] false]
 = some r := ofL (j := 0) (F := fun s => T37l1 (orc C s.k) s.k s.m 0 0 y1 y2 y3 y4 y5 y6 y7 y8 y9) (fs0 fun k m => e37l1 k m 0 0 y1 y2 y3 y4 y5 y6 y7 y8 y9) (by
  unfold T37l1
  repeat' first | with_reducible exact cC | with_reducible refine cN cR fun _ => ?_ | with_reducible refine cT fun _ => ?_ | with_reducible refine cI fun _ => ?_ | with_reducible refine cM ?_ | with_reducible refine cF ?_ ?_ | with_reducible refine cB fun _ => ?_ | with_reducible refine cN cC fun _ => ?_ | with_reducible refine cW ?_ ?_ | with_reducible exact cR | exact cD0 gM) h

noncomputable def T58 (O : Orc) (k m q0 q1 : Nat) (y1 : Int) (y2 : Int) (y3 : Int) (y4 : ByteArray) : Option V := need (O.R 0 56 [V.int .i64 y1]) fun x1 => asTup (some x1) fun x2 => PI.asBool x2[0]?
 fun x3 => bif !x3 then some (V.tup [V.int .i64 1]) else need (O.R 0 57 [V.int .i64 y2, V.int .i64 1, V.int .i64 1000000]) fun x4 => asTup (some x4) fun x5 => PI.asBool x5[0]? fun x6 => bif !x6 then
 some (V.tup [V.int .i64 3]) else need (O.R 0 57 [V.int .i64 y3, V.int .i64 1, V.int .i64 1000000000]) fun x7 => asTup (some x7) fun x8 => PI.asBool x8[0]? fun x9 => bif !x9 then some (V.tup [V.int
 .i64 3]) else bif decide ((↑y4.size : Int) < 1) then some (V.tup [V.int .i64 5]) else bif decide ((↑y4.size : Int) > 12) then some (V.tup [V.int .i64 5]) else O.L 0 58 0 [true, true, true, true,
 false, true] [] k [(1, V.ptr 0 0), (3, V.int .i64 0)] [Ob.box 30 [V.int .i64 y1, V.int .i64 y2, V.int .i64 y3, V.str y4] false]
theorem e58 (k m q0 q1 : Nat) (y1 : Int) (y2 : Int) (y3 : Int) (y4 : ByteArray) : runV C (k + 1) 58 [V.agg [V.int .i64 y1, V.int .i64 y2, V.int .i64 y3, V.str y4]] = T58 (orc C k) k m q0 q1 y1 y2 y3 y4
 := by kernel_rfl
theorem E58 (y1 : Int) (y2 : Int) (y3 : Int) (y4 : ByteArray) {r : V} (h : T58 (orcE C) 0 0 0 0 y1 y2 y3 y4 = some r) : runE C 58 [V.agg [V.int .i64 y1, V.int .i64 y2, V.int .i64 y3, V.str y4]] = some
 r := ofR (F := fun s => T58 (orc C s.k) s.k s.m 0 0 y1 y2 y3 y4) (fun k => e58 k k 0 0 y1 y2 y3 y4) (by
  unfold T58
  repeat' first | with_reducible exact cC | with_reducible refine cN cR fun _ => ?_ | with_reducible refine cT fun _ => ?_ | with_reducible refine cF ?_ ?_ | with_reducible refine cB fun _ => ?_ | with_reducible refine cN cC fun _ => ?_ | with_reducible exact cR | exact cD0 gK) h

noncomputable def T65 (O : Orc) (k m q0 q1 : Nat) (y1 : Nat) (y2 : List V) (y3 : Int) : Option V := O.L 0 65 0 [true, false, true] [] k [(0, V.sl y1 y2), (1, V.int .i64 y3), (5, V.int .i64 0)] []
theorem e65 (k m q0 q1 : Nat) (y1 : Nat) (y2 : List V) (y3 : Int) : runV C (k + 1) 65 [V.sl y1 y2, V.int .i64 y3] = T65 (orc C k) k m q0 q1 y1 y2 y3 := by kernel_rfl
theorem E65 (y1 : Nat) (y2 : List V) (y3 : Int) {r : V} (h : T65 (orcE C) 0 0 0 0 y1 y2 y3 = some r) : runE C 65 [V.sl y1 y2, V.int .i64 y3] = some r := ofR (F := fun s => T65 (orc C s.k) s.k s.m 0 0
 y1 y2 y3) (fun k => e65 k k 0 0 y1 y2 y3) (by
  unfold T65
  repeat' first | with_reducible exact cC | exact cD0 gK) h

noncomputable def T59 (O : Orc) (k m q0 q1 : Nat) (y1 : Int) (y2 : Int) (y3 : Int) (y4 : Int) (y5 : Nat) (y6 : List V) (y7 : Int) (y8 : Bool) (y9 : Bool) (y10 : Int) : Option V := bif y9 then need (O.R
 0 31 [V.pin [V.int .i64 y1, V.int .i64 y2, V.int .i64 y3, V.int .i64 y4, V.sl y5 y6, V.int .i64 y7, V.bool y8] 0]) fun x1 => asTup (some x1) fun x2 => PI.asInt .i64 x2[0]? fun x3 => some (V.tup
 [V.bool (decide (IntKind.i64.wrap (x3 + y10) ≤ y7))]) else need (O.R 0 31 [V.pin [V.int .i64 y1, V.int .i64 y2, V.int .i64 y3, V.int .i64 y4, V.sl y5 y6, V.int .i64 y7, V.bool y8] 0]) fun x4 => asTup
 (some x4) fun x5 => PI.asInt .i64 x5[0]? fun x6 => some (V.tup [V.bool (decide (y10 ≤ x6))])
theorem e59 (k m q0 q1 : Nat) (y1 : Int) (y2 : Int) (y3 : Int) (y4 : Int) (y5 : Nat) (y6 : List V) (y7 : Int) (y8 : Bool) (y9 : Bool) (y10 : Int) : runV C (k + 1) 59 [V.pin [V.int .i64 y1, V.int .i64
 y2, V.int .i64 y3, V.int .i64 y4, V.sl y5 y6, V.int .i64 y7, V.bool y8] 0, V.bool y9, V.int .i64 y10] = T59 (orc C k) k m q0 q1 y1 y2 y3 y4 y5 y6 y7 y8 y9 y10 := by kernel_rfl
theorem E59 (y1 : Int) (y2 : Int) (y3 : Int) (y4 : Int) (y5 : Nat) (y6 : List V) (y7 : Int) (y8 : Bool) (y9 : Bool) (y10 : Int) {r : V} (h : T59 (orcE C) 0 0 0 0 y1 y2 y3 y4 y5 y6 y7 y8 y9 y10 = some
 r) : runE C 59 [V.pin [V.int .i64 y1, V.int .i64 y2, V.int .i64 y3, V.int .i64 y4, V.sl y5 y6, V.int .i64 y7, V.bool y8] 0, V.bool y9, V.int .i64 y10] = some r := ofR (F := fun s => T59 (orc C s.k)
 s.k s.m 0 0 y1 y2 y3 y4 y5 y6 y7 y8 y9 y10) (fun k => e59 k k 0 0 y1 y2 y3 y4 y5 y6 y7 y8 y9 y10) (by
  unfold T59
  repeat' first | with_reducible exact cC | with_reducible refine cN cR fun _ => ?_ | with_reducible refine cT fun _ => ?_ | with_reducible refine cI fun _ => ?_ | with_reducible refine cF ?_ ?_ | with_reducible refine cN cC fun _ => ?_ | with_reducible exact cR) h

noncomputable def T66 (O : Orc) (k m q0 q1 : Nat) (y1 : Nat) (y2 : List V) (y3 : Int) : Option V := O.L 0 66 0 [true, true, true, false, true] [] k [(0, V.sl y1 y2), (1, V.int .i64 y3), (5, V.ref 0),
 (6, V.bool false), (7, V.int .i64 0)] [Ob.row 2 0 [] false]
theorem e66 (k m q0 q1 : Nat) (y1 : Nat) (y2 : List V) (y3 : Int) : runV C (k + 1) 66 [V.sl y1 y2, V.int .i64 y3] = T66 (orc C k) k m q0 q1 y1 y2 y3 := by kernel_rfl
theorem E66 (y1 : Nat) (y2 : List V) (y3 : Int) {r : V} (h : T66 (orcE C) 0 0 0 0 y1 y2 y3 = some r) : runE C 66 [V.sl y1 y2, V.int .i64 y3] = some r := ofR (F := fun s => T66 (orc C s.k) s.k s.m 0 0
 y1 y2 y3) (fun k => e66 k k 0 0 y1 y2 y3) (by
  unfold T66
  repeat' first | with_reducible exact cC | exact cD0 gK) h

noncomputable def T41 (O : Orc) (k m q0 q1 : Nat) (y1 : Int) : Option V := need (O.R 0 34 [V.int .i64 y1, V.int .i64 1, V.int .i64 1000000]) fun x1 => asTup (some x1) fun x2 => PI.asBool x2[0]? fun x3
 => some (V.tup [V.bool x3])
theorem e41 (k m q0 q1 : Nat) (y1 : Int) : runV C (k + 1) 41 [V.int .i64 y1] = T41 (orc C k) k m q0 q1 y1 := by kernel_rfl
theorem E41 (y1 : Int) {r : V} (h : T41 (orcE C) 0 0 0 0 y1 = some r) : runE C 41 [V.int .i64 y1] = some r := ofR (F := fun s => T41 (orc C s.k) s.k s.m 0 0 y1) (fun k => e41 k k 0 0 y1) (by
  unfold T41
  repeat' first | with_reducible exact cC | with_reducible refine cN cR fun _ => ?_ | with_reducible refine cT fun _ => ?_ | with_reducible refine cB fun _ => ?_ | with_reducible refine cN cC fun _ => ?_ | with_reducible exact cR) h

noncomputable def T49l1 (O : Orc) (k m q0 q1 : Nat) (y1 : Nat) (y2 : List V) (y3 : Int) (y4 : Int) (y5 : Int) (y6 : Int) : Option V := bif decide (y5 < y6) then must (inB (IntKind.i64.wrap
 ((IntKind.u64.wrap (IntKind.i64.wrap (y5 + y6))).fdiv 2)) y1) (PI.asInt .i64 y2[(IntKind.i64.wrap ((IntKind.u64.wrap (IntKind.i64.wrap (y5 + y6))).fdiv 2)).toNat * 1]? fun x1 => need (O.R 0 61 [V.int
 .i64 x1, V.int .i64 y3]) fun x2 => asTup (some x2) fun x3 => PI.asBool x3[0]? fun x4 => bif x4 then O.L 0 49 0 [true, true, true, false] [] m [(0, V.sl y1 y2), (1, V.int .i64 y3), (6, V.int .i64 y4),
 (7, V.int .i64 (IntKind.i64.wrap (IntKind.i64.wrap ((IntKind.u64.wrap (IntKind.i64.wrap (y5 + y6))).fdiv 2) + 1))), (8, V.int .i64 y6)] [] else O.L 0 49 0 [true, true, true, false] [] m [(0, V.sl y1
 y2), (1, V.int .i64 y3), (6, V.int .i64 y4), (7, V.int .i64 y5), (8, V.int .i64 (IntKind.i64.wrap ((IntKind.u64.wrap (IntKind.i64.wrap (y5 + y6))).fdiv 2)))] []) else bif decide (y5 < y4) then must
 (inB y5 y1) (PI.asInt .i64 y2[y5.toNat * 1]? fun x5 => bif x5 == y3 then some (V.tup [V.int .i64 y5, V.bool true]) else must (inB y5 y1) (PI.asInt .i64 y2[y5.toNat * 1]? fun x6 => need (O.R 0 62
 [V.int .i64 x6]) fun x7 => asTup (some x7) fun x8 => PI.asBool x8[0]? fun x9 => bif x9 then need (O.R 0 62 [V.int .i64 y3]) fun x10 => asTup (some x10) fun x11 => PI.asBool x11[0]? fun x12 => some
 (V.tup [V.int .i64 y5, V.bool x12]) else some (V.tup [V.int .i64 y5, V.bool false]))) else some (V.tup [V.int .i64 y5, V.bool false])
theorem e49l1 (k m q0 q1 : Nat) (y1 : Nat) (y2 : List V) (y3 : Int) (y4 : Int) (y5 : Int) (y6 : Int) : runL C k 49 0 [true, true, true, false] [] (m + 1) [(0, V.sl y1 y2), (1, V.int .i64 y3), (6, V.int
 .i64 y4), (7, V.int .i64 y5), (8, V.int .i64 y6)] [] = T49l1 (orc C k) k m q0 q1 y1 y2 y3 y4 y5 y6 := by kernel_rfl
theorem E49l1 (y1 : Nat) (y2 : List V) (y3 : Int) (y4 : Int) (y5 : Int) (y6 : Int) {r : V} (h : T49l1 (orcE C) 0 0 0 0 y1 y2 y3 y4 y5 y6 = some r) : loopE C 49 0 [true, true, true, false] [] [(0, V.sl
 y1 y2), (1, V.int .i64 y3), (6, V.int .i64 y4), (7, V.int .i64 y5), (8, V.int .i64 y6)] [] = some r := ofL (j := 0) (F := fun s => T49l1 (orc C s.k) s.k s.m 0 0 y1 y2 y3 y4 y5 y6) (fs0 fun k m =>
 e49l1 k m 0 0 y1 y2 y3 y4 y5 y6) (by
  unfold T49l1
  repeat' first | with_reducible exact cC | with_reducible refine cN cR fun _ => ?_ | with_reducible refine cT fun _ => ?_ | with_reducible refine cI fun _ => ?_ | with_reducible refine cM ?_ | with_reducible refine cF ?_ ?_ | with_reducible refine cB fun _ => ?_ | with_reducible refine cN cC fun _ => ?_ | with_reducible exact cR | exact cD0 gM) h

noncomputable def T55 (O : Orc) (k m q0 q1 : Nat) (y1 : Nat) (y2 : List V) : Option V := bif y1.beq (OfNat.ofNat 0) then both (some (V.tup [V.osl 0 []])) (must (decide (y2.length = y1 * 1)) (must (true
 && (0 + y1).ble 140737488355328 && ((0 + y1) * 8).ble 140737488355328) (must (false || y2.all flatV) (some (V.tup [V.osl (0 + y1) y2]))))) else must (decide (y2.length = y1 * 1)) (must (true && (0 +
 y1).ble 140737488355328 && ((0 + y1) * 8).ble 140737488355328) (must (false || y2.all flatV) (some (V.tup [V.osl (0 + y1) y2]))))
theorem e55 (k m q0 q1 : Nat) (y1 : Nat) (y2 : List V) : runV C (k + 1) 55 [V.sl y1 y2] = T55 (orc C k) k m q0 q1 y1 y2 := by kernel_rfl
theorem E55 (y1 : Nat) (y2 : List V) {r : V} (h : T55 (orcE C) 0 0 0 0 y1 y2 = some r) : runE C 55 [V.sl y1 y2] = some r := ofR (F := fun s => T55 (orc C s.k) s.k s.m 0 0 y1 y2) (fun k => e55 k k 0 0
 y1 y2) (by
  unfold T55
  repeat' first | with_reducible exact cC | with_reducible refine cM ?_ | with_reducible refine cF ?_ ?_ | with_reducible refine cW ?_ ?_) h

noncomputable def T45l1 (O : Orc) (k m q0 q1 : Nat) (y1 : Nat) (y2 : List V) (y3 : Nat) (y4 : List V) (y5 : Int) : Option V := bif decide (y5 < (↑y1 : Int)) then must (inB y5 y1) (PI.asInt .i64
 y2[y5.toNat * 1]? fun x1 => must (inB y5 y3) (PI.asInt .i64 y4[y5.toNat * 1]? fun x2 => bif x1 != x2 then some (V.tup [V.bool false]) else O.L 0 45 0 [true, true, false, true] [] m [(0, V.sl y1 y2),
 (1, V.sl y3 y4), (5, V.int .i64 (IntKind.i64.wrap (y5 + 1)))] [])) else some (V.tup [V.bool true])
theorem e45l1 (k m q0 q1 : Nat) (y1 : Nat) (y2 : List V) (y3 : Nat) (y4 : List V) (y5 : Int) : runL C k 45 0 [true, true, false, true] [] (m + 1) [(0, V.sl y1 y2), (1, V.sl y3 y4), (5, V.int .i64 y5)]
 [] = T45l1 (orc C k) k m q0 q1 y1 y2 y3 y4 y5 := by kernel_rfl
theorem E45l1 (y1 : Nat) (y2 : List V) (y3 : Nat) (y4 : List V) (y5 : Int) {r : V} (h : T45l1 (orcE C) 0 0 0 0 y1 y2 y3 y4 y5 = some r) : loopE C 45 0 [true, true, false, true] [] [(0, V.sl y1 y2), (1,
 V.sl y3 y4), (5, V.int .i64 y5)] [] = some r := ofL (j := 0) (F := fun s => T45l1 (orc C s.k) s.k s.m 0 0 y1 y2 y3 y4 y5) (fs0 fun k m => e45l1 k m 0 0 y1 y2 y3 y4 y5) (by
  unfold T45l1
  repeat' first | with_reducible exact cC | with_reducible refine cI fun _ => ?_ | with_reducible refine cM ?_ | with_reducible refine cF ?_ ?_ | exact cD0 gM) h

noncomputable def T46l1 (O : Orc) (k m q0 q1 : Nat) (y1 : Int) (y2 : Int) (y3 : Nat) (y4 : List V) : Option V := bif decide (y2 < (↑y3 : Int)) then must (inB y2 y3) (must ([V.int .i64 y1].length.beq 1
 && (y2.toNat * 1 + [V.int .i64 y1].length).ble y4.length) (O.X 0 46 [0] [Ob.row 2 0 [] false] 0 [true, false, true] [] m [(0, V.ref 0), (1, V.int .i64 (IntKind.i64.wrap (y1 + 1))), (5, V.int .i64
 (IntKind.i64.wrap (y2 + 1)))] [Ob.row 2 y3 (splice y4 (y2.toNat * 1) [V.int .i64 y1]) false])) else must (false || y4.all flatV) (some (V.tup [V.int .i64 y1, V.osl y3 y4]))
theorem e46l1 (k m q0 q1 : Nat) (y1 : Int) (y2 : Int) (y3 : Nat) (y4 : List V) : runLW C k 46 [0] [Ob.row 2 0 [] false] 0 [true, false, true] [] (m + 1) [(0, V.ref 0), (1, V.int .i64 y1), (5, V.int
 .i64 y2)] [Ob.row 2 y3 y4 false] = T46l1 (orc C k) k m q0 q1 y1 y2 y3 y4 := by kernel_rfl
theorem E46l1 (y1 : Int) (y2 : Int) (y3 : Nat) (y4 : List V) {r : V} (h : T46l1 (orcE C) 0 0 0 0 y1 y2 y3 y4 = some r) : loopWE C 46 [0] [Ob.row 2 0 [] false] 0 [true, false, true] [] [(0, V.ref 0),
 (1, V.int .i64 y1), (5, V.int .i64 y2)] [Ob.row 2 y3 y4 false] = some r := ofX (j := 0) (F := fun s => T46l1 (orc C s.k) s.k s.m 0 0 y1 y2 y3 y4) (fs0 fun k m => e46l1 k m 0 0 y1 y2 y3 y4) (by
  unfold T46l1
  repeat' first | with_reducible exact cC | with_reducible refine cM ?_ | with_reducible refine cF ?_ ?_ | exact cX0 gM) h

noncomputable def T60 (O : Orc) (k m q0 q1 : Nat) (y1 : Nat) (y2 : List V) (y3 : Int) : Option V := O.L 0 60 0 [true, false, true] [] k [(0, V.sl y1 y2), (1, V.int .i64 y3), (5, V.int .i64 0)] []
theorem e60 (k m q0 q1 : Nat) (y1 : Nat) (y2 : List V) (y3 : Int) : runV C (k + 1) 60 [V.sl y1 y2, V.int .i64 y3] = T60 (orc C k) k m q0 q1 y1 y2 y3 := by kernel_rfl
theorem E60 (y1 : Nat) (y2 : List V) (y3 : Int) {r : V} (h : T60 (orcE C) 0 0 0 0 y1 y2 y3 = some r) : runE C 60 [V.sl y1 y2, V.int .i64 y3] = some r := ofR (F := fun s => T60 (orc C s.k) s.k s.m 0 0
 y1 y2 y3) (fun k => e60 k k 0 0 y1 y2 y3) (by
  unfold T60
  repeat' first | with_reducible exact cC | exact cD0 gK) h

noncomputable def T52 (O : Orc) (k m q0 q1 : Nat) (y1 : Int) (y2 : Nat) (y3 : List V) (y4 : Int) : Option V := bif decide (y1 < 1) then some (V.tup [V.int .i64 0, V.sl y2 y3, V.int .i64
 (IntKind.i64.wrap (y4 + 1))]) else bif (↑y2 : Int) == 0 then must (!decide (y1 = 0)) (some (V.tup [V.int .i64 ((IntKind.i64.wrap (IntKind.i64.wrap (IntKind.i64.wrap (y4 + 1) - 1) * 7)).tmod y1), V.sl
 y2 y3, V.int .i64 (IntKind.i64.wrap (y4 + 1))])) else must (!decide ((↑y2 : Int) = 0)) (must (inB ((IntKind.i64.wrap (IntKind.i64.wrap (y4 + 1) - 1)).tmod (↑y2 : Int)) y2) (PI.asInt .u8
 y3[((IntKind.i64.wrap (IntKind.i64.wrap (y4 + 1) - 1)).tmod (↑y2 : Int)).toNat * 1]? fun x1 => must (!decide ((↑y2 : Int) = 0)) (bif decide (y1 > 200) then must (!decide ((↑y2 : Int) = 0)) (must (inB
 ((IntKind.i64.wrap (IntKind.i64.wrap (IntKind.i64.wrap (y4 + 1) - 1) + 1)).tmod (↑y2 : Int)) y2) (PI.asInt .u8 y3[((IntKind.i64.wrap (IntKind.i64.wrap (IntKind.i64.wrap (y4 + 1) - 1) + 1)).tmod (↑y2 :
 Int)).toNat * 1]? fun x2 => must (!decide (y1 = 0)) (some (V.tup [V.int .i64 ((IntKind.i64.wrap (IntKind.i64.wrap (IntKind.i64.wrap (IntKind.i64.wrap (IntKind.i64.wrap x1 + IntKind.i64.wrap
 (IntKind.i64.wrap ((IntKind.i64.wrap (IntKind.i64.wrap (y4 + 1) - 1)).tdiv (↑y2 : Int)) * 37)) * 251) + IntKind.i64.wrap (IntKind.i64.wrap x2 * 13)) + IntKind.i64.wrap (IntKind.i64.wrap (y4 + 1) -
 1))).tmod y1), V.sl y2 y3, V.int .i64 (IntKind.i64.wrap (y4 + 1))])))) else must (!decide (y1 = 0)) (some (V.tup [V.int .i64 ((IntKind.i64.wrap (IntKind.i64.wrap x1 + IntKind.i64.wrap
 (IntKind.i64.wrap ((IntKind.i64.wrap (IntKind.i64.wrap (y4 + 1) - 1)).tdiv (↑y2 : Int)) * 37))).tmod y1), V.sl y2 y3, V.int .i64 (IntKind.i64.wrap (y4 + 1))])))))
theorem e52 (k m q0 q1 : Nat) (y1 : Int) (y2 : Nat) (y3 : List V) (y4 : Int) : runW C (k + 1) 52 [] [V.ptr 0 0, V.int .i64 y1] [Ob.box 80 [V.sl y2 y3, V.int .i64 y4] false] = T52 (orc C k) k m q0 q1 y1
 y2 y3 y4 := by kernel_rfl
theorem E52 (y1 : Int) (y2 : Nat) (y3 : List V) (y4 : Int) {r : V} (h : T52 (orcE C) 0 0 0 0 y1 y2 y3 y4 = some r) : runWE C 52 [] [V.ptr 0 0, V.int .i64 y1] [Ob.box 80 [V.sl y2 y3, V.int .i64 y4]
 false] = some r := ofW (F := fun s => T52 (orc C s.k) s.k s.m 0 0 y1 y2 y3 y4) (fun k => e52 k k 0 0 y1 y2 y3 y4) (by
  unfold T52
  repeat' first | with_reducible exact cC | with_reducible refine cI fun _ => ?_ | with_reducible refine cM ?_ | with_reducible refine cF ?_ ?_) h

noncomputable def T30 (O : Orc) (k m q0 q1 : Nat) (y1 : Nat) (y2 : List V) (y3 : Nat) (y4 : List V) (y5 : Int) : Option V := need (O.W 0 52 [] [V.ptr 0 0, V.int .i64 (↑y1 : Int)] [Ob.box 80 [V.sl y3
 y4, V.int .i64 y5] false]) fun x1 => asTup (some x1) fun x2 => PI.asInt .i64 x2[0]? fun x3 => asSl x2[1]? fun x4 x5 => PI.asInt .i64 x2[2]? fun x6 => must (inB x3 y1) (PI.asInt .i64 y2[x3.toNat * 1]?
 fun x7 => some (V.tup [V.int .i64 x7, V.sl x4 x5, V.int .i64 x6]))
theorem e30 (k m q0 q1 : Nat) (y1 : Nat) (y2 : List V) (y3 : Nat) (y4 : List V) (y5 : Int) : runW C (k + 1) 30 [] [V.ptr 0 0, V.sl y1 y2] [Ob.box 80 [V.sl y3 y4, V.int .i64 y5] false] = T30 (orc C k) k
 m q0 q1 y1 y2 y3 y4 y5 := by kernel_rfl
theorem E30 (y1 : Nat) (y2 : List V) (y3 : Nat) (y4 : List V) (y5 : Int) {r : V} (h : T30 (orcE C) 0 0 0 0 y1 y2 y3 y4 y5 = some r) : runWE C 30 [] [V.ptr 0 0, V.sl y1 y2] [Ob.box 80 [V.sl y3 y4, V.int
 .i64 y5] false] = some r := ofW (F := fun s => T30 (orc C s.k) s.k s.m 0 0 y1 y2 y3 y4 y5) (fun k => e30 k k 0 0 y1 y2 y3 y4 y5) (by
  unfold T30
  repeat' first | with_reducible exact cC | with_reducible refine cN cQ fun _ => ?_ | with_reducible refine cT fun _ => ?_ | with_reducible refine cI fun _ => ?_ | with_reducible refine cM ?_ | with_reducible refine cL fun _ _ => ?_ | with_reducible refine cN cC fun _ => ?_ | with_reducible exact cQ) h

noncomputable def T28l1 (O : Orc) (k m q0 q1 : Nat) (y1 : Int) (y2 : Nat) (y3 : List V) (y4 : Int) (y5 : Int) (y6 : Int) (y7 : Int) (y8 : Int) (y9 : Int) (y10 : Bool) (y11 : Nat) (y12 : List V) (y13 :
 Int) (y14 : Int) (y15 : Int) (y16 : Int) (y17 : Int) (y18 : Bool) (y19 : Nat) (y20 : List V) : Option V := bif decide (y1 < 7) then need (O.W 0 48 [] [V.ptr 0 0, V.int .i64 3] [Ob.box 80 [V.sl y2 y3,
 V.int .i64 y4] false]) fun x1 => asTup (some x1) fun x2 => PI.asBool x2[0]? fun x3 => asSl x2[1]? fun x4 x5 => PI.asInt .i64 x2[2]? fun x6 => bif x3 then must (true && (y19 + 1).ble 140737488355328 &&
 ((y19 + 1) * 8).ble 140737488355328) (O.X 0 28 [] [Ob.box 80 [V.u, V.u] false] 0 [true, true, true, true, true, true, true, false, true] [] m [(0, V.ptr 0 0), (2, V.ptr 1 0), (3, V.ptr 3 0), (6, V.int
 .i64 (IntKind.i64.wrap (y1 + 1)))] [Ob.box 80 [V.sl x4 x5, V.int .i64 x6] false, Ob.box 26 [V.int .i64 y5, V.int .i64 y6, V.int .i64 y7, V.int .i64 y8, V.ref 2, V.int .i64 y9, V.bool y10] false,
 Ob.row 2 y11 y12 false, Ob.box 26 [V.int .i64 y13, V.int .i64 y14, V.int .i64 y15, V.int .i64 y16, V.ref 4, V.int .i64 y17, V.bool y18] false, Ob.row 2 (y19 + 1) (y20 ++ [V.int .i64 y1]) false]) else
 O.X 0 28 [] [Ob.box 80 [V.u, V.u] false] 0 [true, true, true, true, true, true, true, false, true] [] m [(0, V.ptr 0 0), (2, V.ptr 1 0), (3, V.ptr 3 0), (6, V.int .i64 (IntKind.i64.wrap (y1 + 1)))]
 [Ob.box 80 [V.sl x4 x5, V.int .i64 x6] false, Ob.box 26 [V.int .i64 y5, V.int .i64 y6, V.int .i64 y7, V.int .i64 y8, V.ref 2, V.int .i64 y9, V.bool y10] false, Ob.row 2 y11 y12 false, Ob.box 26 [V.int
 .i64 y13, V.int .i64 y14, V.int .i64 y15, V.int .i64 y16, V.ref 4, V.int .i64 y17, V.bool y18] false, Ob.row 2 y19 y20 false] else need (O.W 0 48 [] [V.ptr 0 0, V.int .i64 8] [Ob.box 80 [V.sl y2 y3,
 V.int .i64 y4] false]) fun x7 => asTup (some x7) fun x8 => PI.asBool x8[0]? fun x9 => asSl x8[1]? fun x10 x11 => PI.asInt .i64 x8[2]? fun x12 => need (O.W 0 52 [] [V.ptr 0 0, V.int .i64 24] [Ob.box 80
 [V.sl x10 x11, V.int .i64 x12] false]) fun x13 => asTup (some x13) fun x14 => PI.asInt .i64 x14[0]? fun x15 => asSl x14[1]? fun x16 x17 => PI.asInt .i64 x14[2]? fun x18 => bif x15 == 0 then need (O.W
 0 30 [] [V.ptr 0 0, V.sl 2 [V.int .i64 0, V.int .i64 3]] [Ob.box 80 [V.sl x16 x17, V.int .i64 x18] false]) fun x19 => asTup (some x19) fun x20 => PI.asInt .i64 x20[0]? fun x21 => asSl x20[1]? fun x22
 x23 => PI.asInt .i64 x20[2]? fun x24 => some (V.tup [V.int .i64 x21, V.int .i64 y14, V.int .i64 y15, V.int .i64 y16, V.sl y19 y20, V.int .i64 y17, V.bool x9, V.sl x22 x23, V.int .i64 x24]) else bif
 x15 == 1 then need (O.W 0 30 [] [V.ptr 0 0, V.sl 3 [V.int .i64 (-1), V.int .i64 1000000000000001, V.int .i64 1000000000000000]] [Ob.box 80 [V.sl x16 x17, V.int .i64 x18] false]) fun x25 => asTup (some
 x25) fun x26 => PI.asInt .i64 x26[0]? fun x27 => asSl x26[1]? fun x28 x29 => PI.asInt .i64 x26[2]? fun x30 => some (V.tup [V.int .i64 y13, V.int .i64 x27, V.int .i64 y15, V.int .i64 y16, V.sl y19 y20,
 V.int .i64 y17, V.bool x9, V.sl x28 x29, V.int .i64 x30]) else bif x15 == 2 then need (O.W 0 30 [] [V.ptr 0 0, V.sl 3 [V.int .i64 (-1), V.int .i64 1000000000000001, V.int .i64 61]] [Ob.box 80 [V.sl
 x16 x17, V.int .i64 x18] false]) fun x31 => asTup (some x31) fun x32 => PI.asInt .i64 x32[0]? fun x33 => asSl x32[1]? fun x34 x35 => PI.asInt .i64 x32[2]? fun x36 => some (V.tup [V.int .i64 y13, V.int
 .i64 y14, V.int .i64 x33, V.int .i64 y16, V.sl y19 y20, V.int .i64 y17, V.bool x9, V.sl x34 x35, V.int .i64 x36]) else bif x15 == 3 then need (O.W 0 30 [] [V.ptr 0 0, V.sl 3 [V.int .i64 (-1), V.int
 .i64 0, V.int .i64 1000000000000001]] [Ob.box 80 [V.sl x16 x17, V.int .i64 x18] false]) fun x37 => asTup (some x37) fun x38 => PI.asInt .i64 x38[0]? fun x39 => asSl x38[1]? fun x40 x41 => PI.asInt
 .i64 x38[2]? fun x42 => some (V.tup [V.int .i64 y13, V.int .i64 y14, V.int .i64 y15, V.int .i64 y16, V.sl y19 y20, V.int .i64 x39, V.bool x9, V.sl x40 x41, V.int .i64 x42]) else bif x15 == 4 then need
 (O.W 0 30 [] [V.ptr 0 0, V.sl 4 [V.int .i64 0, V.int .i64 1000001, V.int .i64 1000002, V.int .i64 1000000]] [Ob.box 80 [V.sl x16 x17, V.int .i64 x18] false]) fun x43 => asTup (some x43) fun x44 =>
 PI.asInt .i64 x44[0]? fun x45 => asSl x44[1]? fun x46 x47 => PI.asInt .i64 x44[2]? fun x48 => some (V.tup [V.int .i64 y13, V.int .i64 y14, V.int .i64 y15, V.int .i64 x45, V.sl y19 y20, V.int .i64 y17,
 V.bool x9, V.sl x46 x47, V.int .i64 x48]) else bif x15 == 5 then need (O.W 0 30 [] [V.ptr 0 0, V.sl 4 [V.int .i64 1, V.int .i64 0, V.int .i64 1000001, V.int .i64 1000000]] [Ob.box 80 [V.sl x16 x17,
 V.int .i64 x18] false]) fun x49 => asTup (some x49) fun x50 => PI.asInt .i64 x50[0]? fun x51 => asSl x50[1]? fun x52 x53 => PI.asInt .i64 x50[2]? fun x54 => must (true && (y19 + 1).ble 140737488355328
 && ((y19 + 1) * 8).ble 140737488355328) (some (V.tup [V.int .i64 y13, V.int .i64 y14, V.int .i64 y15, V.int .i64 y16, V.sl (y19 + 1) (y20 ++ [V.int .i64 x51]), V.int .i64 y17, V.bool x9, V.sl x52 x53,
 V.int .i64 x54])) else bif x15 == 6 then O.X 0 28 [] [Ob.box 80 [V.u, V.u] false] 3 [true, true, true, true, true, true, true, true, true, false, true, false, true, true, true, true, true, true, true,
 true, true, true, true, true, true, false, true, true] [] k [(0, V.ptr 0 0), (2, V.ptr 1 0), (3, V.ptr 3 0), (7, V.int .i64 0)] [Ob.box 80 [V.sl x16 x17, V.int .i64 x18] false, Ob.box 26 [V.int .i64
 y5, V.int .i64 y6, V.int .i64 y7, V.int .i64 y8, V.ref 2, V.int .i64 y9, V.bool y10] false, Ob.row 2 y11 y12 false, Ob.box 26 [V.int .i64 y13, V.int .i64 y14, V.int .i64 y15, V.int .i64 y16, V.ref 4,
 V.int .i64 y17, V.bool x9] false, Ob.row 2 0 [] false] else some (V.tup [V.int .i64 y13, V.int .i64 y14, V.int .i64 y15, V.int .i64 y16, V.sl y19 y20, V.int .i64 y17, V.bool x9, V.sl x16 x17, V.int
 .i64 x18])
theorem e28l1 (k m q0 q1 : Nat) (y1 : Int) (y2 : Nat) (y3 : List V) (y4 : Int) (y5 : Int) (y6 : Int) (y7 : Int) (y8 : Int) (y9 : Int) (y10 : Bool) (y11 : Nat) (y12 : List V) (y13 : Int) (y14 : Int)
 (y15 : Int) (y16 : Int) (y17 : Int) (y18 : Bool) (y19 : Nat) (y20 : List V) : runLW C k 28 [] [Ob.box 80 [V.u, V.u] false] 0 [true, true, true, true, true, true, true, false, true] [] (m + 1) [(0,
 V.ptr 0 0), (2, V.ptr 1 0), (3, V.ptr 3 0), (6, V.int .i64 y1)] [Ob.box 80 [V.sl y2 y3, V.int .i64 y4] false, Ob.box 26 [V.int .i64 y5, V.int .i64 y6, V.int .i64 y7, V.int .i64 y8, V.ref 2, V.int .i64
 y9, V.bool y10] false, Ob.row 2 y11 y12 false, Ob.box 26 [V.int .i64 y13, V.int .i64 y14, V.int .i64 y15, V.int .i64 y16, V.ref 4, V.int .i64 y17, V.bool y18] false, Ob.row 2 y19 y20 false] = T28l1
 (orc C k) k m q0 q1 y1 y2 y3 y4 y5 y6 y7 y8 y9 y10 y11 y12 y13 y14 y15 y16 y17 y18 y19 y20 := by kernel_rfl
theorem E28l1 (y1 : Int) (y2 : Nat) (y3 : List V) (y4 : Int) (y5 : Int) (y6 : Int) (y7 : Int) (y8 : Int) (y9 : Int) (y10 : Bool) (y11 : Nat) (y12 : List V) (y13 : Int) (y14 : Int) (y15 : Int) (y16 :
 Int) (y17 : Int) (y18 : Bool) (y19 : Nat) (y20 : List V) {r : V} (h : T28l1 (orcE C) 0 0 0 0 y1 y2 y3 y4 y5 y6 y7 y8 y9 y10 y11 y12 y13 y14 y15 y16 y17 y18 y19 y20 = some r) : loopWE C 28 [] [Ob.box
 80 [V.u, V.u] false] 0 [true, true, true, true, true, true, true, false, true] [] [(0, V.ptr 0 0), (2, V.ptr 1 0), (3, V.ptr 3 0), (6, V.int .i64 y1)] [Ob.box 80 [V.sl y2 y3, V.int .i64 y4] false,
 Ob.box 26 [V.int .i64 y5, V.int .i64 y6, V.int .i64 y7, V.int .i64 y8, V.ref 2, V.int .i64 y9, V.bool y10] false, Ob.row 2 y11 y12 false, Ob.box 26 [V.int .i64 y13, V.int .i64 y14, V.int .i64 y15,
 V.int .i64 y16, V.ref 4, V.int .i64 y17, V.bool y18] false, Ob.row 2 y19 y20 false] = some r := ofX (j := 0) (F := fun s => T28l1 (orc C s.k) s.k s.m 0 0 y1 y2 y3 y4 y5 y6 y7 y8 y9 y10 y11 y12 y13 y14
 y15 y16 y17 y18 y19 y20) (fs0 fun k m => e28l1 k m 0 0 y1 y2 y3 y4 y5 y6 y7 y8 y9 y10 y11 y12 y13 y14 y15 y16 y17 y18 y19 y20) (by
  unfold T28l1
  repeat' first | with_reducible exact cC | with_reducible refine cN cQ fun _ => ?_ | with_reducible refine cT fun _ => ?_ | with_reducible refine cI fun _ => ?_ | with_reducible refine cM ?_ | with_reducible refine cF ?_ ?_ | with_reducible refine cB fun _ => ?_ | with_reducible refine cL fun _ _ => ?_ | with_reducible refine cN cC fun _ => ?_ | with_reducible exact cQ | exact cX0 gK | exact cX0 gM) h

noncomputable def T53 (O : Orc) (k m q0 q1 : Nat) (y1 : Nat) (y2 : List V) (y3 : Int) : Option V := need (O.W 0 52 [] [V.ptr 0 0, V.int .i64 4] [Ob.box 80 [V.sl y1 y2, V.int .i64 y3] false]) fun x1 =>
 asTup (some x1) fun x2 => PI.asInt .i64 x2[0]? fun x3 => asSl x2[1]? fun x4 x5 => PI.asInt .i64 x2[2]? fun x6 => must (inB x3 4) (asStr [V.str { data := #[OfNat.ofNat 97, OfNat.ofNat 110, OfNat.ofNat
 110] }, V.str { data := #[OfNat.ofNat 98, OfNat.ofNat 111, OfNat.ofNat 98] }, V.str { data := #[OfNat.ofNat 99, OfNat.ofNat 51] }, V.str { data := #[OfNat.ofNat 122] }][x3.toNat * 1]? fun x7 => some
 (V.tup [V.str x7, V.sl x4 x5, V.int .i64 x6]))
theorem e53 (k m q0 q1 : Nat) (y1 : Nat) (y2 : List V) (y3 : Int) : runW C (k + 1) 53 [] [V.ptr 0 0] [Ob.box 80 [V.sl y1 y2, V.int .i64 y3] false] = T53 (orc C k) k m q0 q1 y1 y2 y3 := by kernel_rfl
theorem E53 (y1 : Nat) (y2 : List V) (y3 : Int) {r : V} (h : T53 (orcE C) 0 0 0 0 y1 y2 y3 = some r) : runWE C 53 [] [V.ptr 0 0] [Ob.box 80 [V.sl y1 y2, V.int .i64 y3] false] = some r := ofW (F := fun
 s => T53 (orc C s.k) s.k s.m 0 0 y1 y2 y3) (fun k => e53 k k 0 0 y1 y2 y3) (by
  unfold T53
  repeat' first | with_reducible exact cC | with_reducible refine cN cQ fun _ => ?_ | with_reducible refine cT fun _ => ?_ | with_reducible refine cI fun _ => ?_ | with_reducible refine cM ?_ | with_reducible refine cS fun _ => ?_ | with_reducible refine cL fun _ _ => ?_ | with_reducible refine cN cC fun _ => ?_ | with_reducible exact cQ) h

noncomputable def T31 (O : Orc) (k m q0 q1 : Nat) (y1 : Int) (y2 : Int) (y3 : Int) (y4 : Int) (y5 : Nat) (y6 : List V) (y7 : Int) (y8 : Bool) : Option V := bif y1 == 1 then some (V.tup [V.int .i64
 (IntKind.i64.wrap (y2 - y3))]) else some (V.tup [V.int .i64 (IntKind.i64.wrap (y3 - y2))])
theorem e31 (k m q0 q1 : Nat) (y1 : Int) (y2 : Int) (y3 : Int) (y4 : Int) (y5 : Nat) (y6 : List V) (y7 : Int) (y8 : Bool) : runV C (k + 1) 31 [V.pin [V.int .i64 y1, V.int .i64 y2, V.int .i64 y3, V.int
 .i64 y4, V.sl y5 y6, V.int .i64 y7, V.bool y8] 0] = T31 (orc C k) k m q0 q1 y1 y2 y3 y4 y5 y6 y7 y8 := by kernel_rfl
theorem E31 (y1 : Int) (y2 : Int) (y3 : Int) (y4 : Int) (y5 : Nat) (y6 : List V) (y7 : Int) (y8 : Bool) {r : V} (h : T31 (orcE C) 0 0 0 0 y1 y2 y3 y4 y5 y6 y7 y8 = some r) : runE C 31 [V.pin [V.int
 .i64 y1, V.int .i64 y2, V.int .i64 y3, V.int .i64 y4, V.sl y5 y6, V.int .i64 y7, V.bool y8] 0] = some r := ofR (F := fun s => T31 (orc C s.k) s.k s.m 0 0 y1 y2 y3 y4 y5 y6 y7 y8) (fun k => e31 k k 0 0
 y1 y2 y3 y4 y5 y6 y7 y8) (by
  unfold T31
  repeat' first | with_reducible exact cC | with_reducible refine cF ?_ ?_) h

noncomputable def T58l1 (O : Orc) (k m q0 q1 : Nat) (y1 : Int) (y2 : Int) (y3 : Int) (y4 : Int) (y5 : ByteArray) : Option V := bif decide (y1 < (↑y5.size : Int)) then must (inB y1 y5.size) (bif decide
 ((↑(y5.data.toList.getD y1.toNat (OfNat.ofNat 0)).toNat : Int) < 97) then bif decide ((↑(y5.data.toList.getD y1.toNat (OfNat.ofNat 0)).toNat : Int) < 48) then some (V.tup [V.int .i64 5]) else bif
 decide ((↑(y5.data.toList.getD y1.toNat (OfNat.ofNat 0)).toNat : Int) > 57) then some (V.tup [V.int .i64 5]) else O.L 0 58 0 [true, true, true, true, false, true] [] m [(1, V.ptr 0 0), (3, V.int .i64
 (IntKind.i64.wrap (y1 + 1)))] [Ob.box 30 [V.int .i64 y2, V.int .i64 y3, V.int .i64 y4, V.str y5] false] else bif decide ((↑(y5.data.toList.getD y1.toNat (OfNat.ofNat 0)).toNat : Int) > 122) then bif
 decide ((↑(y5.data.toList.getD y1.toNat (OfNat.ofNat 0)).toNat : Int) < 48) then some (V.tup [V.int .i64 5]) else bif decide ((↑(y5.data.toList.getD y1.toNat (OfNat.ofNat 0)).toNat : Int) > 57) then
 some (V.tup [V.int .i64 5]) else O.L 0 58 0 [true, true, true, true, false, true] [] m [(1, V.ptr 0 0), (3, V.int .i64 (IntKind.i64.wrap (y1 + 1)))] [Ob.box 30 [V.int .i64 y2, V.int .i64 y3, V.int
 .i64 y4, V.str y5] false] else O.L 0 58 0 [true, true, true, true, false, true] [] m [(1, V.ptr 0 0), (3, V.int .i64 (IntKind.i64.wrap (y1 + 1)))] [Ob.box 30 [V.int .i64 y2, V.int .i64 y3, V.int .i64
 y4, V.str y5] false]) else some (V.tup [V.int .i64 0])
theorem e58l1 (k m q0 q1 : Nat) (y1 : Int) (y2 : Int) (y3 : Int) (y4 : Int) (y5 : ByteArray) : runL C k 58 0 [true, true, true, true, false, true] [] (m + 1) [(1, V.ptr 0 0), (3, V.int .i64 y1)]
 [Ob.box 30 [V.int .i64 y2, V.int .i64 y3, V.int .i64 y4, V.str y5] false] = T58l1 (orc C k) k m q0 q1 y1 y2 y3 y4 y5 := by kernel_rfl
theorem E58l1 (y1 : Int) (y2 : Int) (y3 : Int) (y4 : Int) (y5 : ByteArray) {r : V} (h : T58l1 (orcE C) 0 0 0 0 y1 y2 y3 y4 y5 = some r) : loopE C 58 0 [true, true, true, true, false, true] [] [(1,
 V.ptr 0 0), (3, V.int .i64 y1)] [Ob.box 30 [V.int .i64 y2, V.int .i64 y3, V.int .i64 y4, V.str y5] false] = some r := ofL (j := 0) (F := fun s => T58l1 (orc C s.k) s.k s.m 0 0 y1 y2 y3 y4 y5) (fs0 fun
 k m => e58l1 k m 0 0 y1 y2 y3 y4 y5) (by
  unfold T58l1
  repeat' first | with_reducible exact cC | with_reducible refine cM ?_ | with_reducible refine cF ?_ ?_ | exact cD0 gM) h

noncomputable def T65l1 (O : Orc) (k m q0 q1 : Nat) (y1 : Nat) (y2 : List V) (y3 : Int) (y4 : Int) : Option V := bif decide (y4 < (↑y1 : Int)) then must (inB y4 y1) (PI.asInt .i64 y2[y4.toNat * 1]? fun
 x1 => bif x1 == y3 then some (V.tup [V.bool true]) else O.L 0 65 0 [true, false, true] [] m [(0, V.sl y1 y2), (1, V.int .i64 y3), (5, V.int .i64 (IntKind.i64.wrap (y4 + 1)))] []) else some (V.tup
 [V.bool false])
theorem e65l1 (k m q0 q1 : Nat) (y1 : Nat) (y2 : List V) (y3 : Int) (y4 : Int) : runL C k 65 0 [true, false, true] [] (m + 1) [(0, V.sl y1 y2), (1, V.int .i64 y3), (5, V.int .i64 y4)] [] = T65l1 (orc C
 k) k m q0 q1 y1 y2 y3 y4 := by kernel_rfl
theorem E65l1 (y1 : Nat) (y2 : List V) (y3 : Int) (y4 : Int) {r : V} (h : T65l1 (orcE C) 0 0 0 0 y1 y2 y3 y4 = some r) : loopE C 65 0 [true, false, true] [] [(0, V.sl y1 y2), (1, V.int .i64 y3), (5,
 V.int .i64 y4)] [] = some r := ofL (j := 0) (F := fun s => T65l1 (orc C s.k) s.k s.m 0 0 y1 y2 y3 y4) (fs0 fun k m => e65l1 k m 0 0 y1 y2 y3 y4) (by
  unfold T65l1
  repeat' first | with_reducible exact cC | with_reducible refine cI fun _ => ?_ | with_reducible refine cM ?_ | with_reducible refine cF ?_ ?_ | exact cD0 gM) h

noncomputable def T66l1 (O : Orc) (k m q0 q1 : Nat) (y1 : Nat) (y2 : List V) (y3 : Int) (y4 : Bool) (y5 : Int) (y6 : Nat) (y7 : List V) : Option V := bif decide (y5 < (↑y1 : Int)) then must (inB y5 y1)
 (PI.asInt .i64 y2[y5.toNat * 1]? fun x1 => bif decide (x1 > y3) then bif !y4 then must (true && (y6 + 1).ble 140737488355328 && ((y6 + 1) * 8).ble 140737488355328) (must (inB y5 y1) (PI.asInt .i64
 y2[y5.toNat * 1]? fun x2 => must (true && (y6 + 1 + 1).ble 140737488355328 && ((y6 + 1 + 1) * 8).ble 140737488355328) (O.L 0 66 0 [true, true, true, false, true] [] m [(0, V.sl y1 y2), (1, V.int .i64
 y3), (5, V.ref 0), (6, V.bool true), (7, V.int .i64 (IntKind.i64.wrap (y5 + 1)))] [Ob.row 2 (y6 + 1 + 1) (y7 ++ [V.int .i64 y3] ++ [V.int .i64 x2]) false]))) else must (inB y5 y1) (PI.asInt .i64
 y2[y5.toNat * 1]? fun x3 => must (true && (y6 + 1).ble 140737488355328 && ((y6 + 1) * 8).ble 140737488355328) (O.L 0 66 0 [true, true, true, false, true] [] m [(0, V.sl y1 y2), (1, V.int .i64 y3), (5,
 V.ref 0), (6, V.bool y4), (7, V.int .i64 (IntKind.i64.wrap (y5 + 1)))] [Ob.row 2 (y6 + 1) (y7 ++ [V.int .i64 x3]) false])) else must (inB y5 y1) (PI.asInt .i64 y2[y5.toNat * 1]? fun x4 => must (true
 && (y6 + 1).ble 140737488355328 && ((y6 + 1) * 8).ble 140737488355328) (O.L 0 66 0 [true, true, true, false, true] [] m [(0, V.sl y1 y2), (1, V.int .i64 y3), (5, V.ref 0), (6, V.bool y4), (7, V.int
 .i64 (IntKind.i64.wrap (y5 + 1)))] [Ob.row 2 (y6 + 1) (y7 ++ [V.int .i64 x4]) false]))) else bif !y4 then must (true && (y6 + 1).ble 140737488355328 && ((y6 + 1) * 8).ble 140737488355328) (must (false
 || (y7 ++ [V.int .i64 y3]).all flatV) (some (V.tup [V.osl (y6 + 1) (y7 ++ [V.int .i64 y3])]))) else must (false || y7.all flatV) (some (V.tup [V.osl y6 y7]))
theorem e66l1 (k m q0 q1 : Nat) (y1 : Nat) (y2 : List V) (y3 : Int) (y4 : Bool) (y5 : Int) (y6 : Nat) (y7 : List V) : runL C k 66 0 [true, true, true, false, true] [] (m + 1) [(0, V.sl y1 y2), (1,
 V.int .i64 y3), (5, V.ref 0), (6, V.bool y4), (7, V.int .i64 y5)] [Ob.row 2 y6 y7 false] = T66l1 (orc C k) k m q0 q1 y1 y2 y3 y4 y5 y6 y7 := by kernel_rfl
theorem E66l1 (y1 : Nat) (y2 : List V) (y3 : Int) (y4 : Bool) (y5 : Int) (y6 : Nat) (y7 : List V) {r : V} (h : T66l1 (orcE C) 0 0 0 0 y1 y2 y3 y4 y5 y6 y7 = some r) : loopE C 66 0 [true, true, true,
 false, true] [] [(0, V.sl y1 y2), (1, V.int .i64 y3), (5, V.ref 0), (6, V.bool y4), (7, V.int .i64 y5)] [Ob.row 2 y6 y7 false] = some r := ofL (j := 0) (F := fun s => T66l1 (orc C s.k) s.k s.m 0 0 y1
 y2 y3 y4 y5 y6 y7) (fs0 fun k m => e66l1 k m 0 0 y1 y2 y3 y4 y5 y6 y7) (by
  unfold T66l1
  repeat' first | with_reducible exact cC | with_reducible refine cI fun _ => ?_ | with_reducible refine cM ?_ | with_reducible refine cF ?_ ?_ | exact cD0 gM) h

noncomputable def T61 (O : Orc) (k m q0 q1 : Nat) (y1 : Int) (y2 : Int) : Option V := need (O.R 0 74 [V.int .i64 y1]) fun x1 => asTup (some x1) fun x2 => PI.asBool x2[0]? fun x3 => bif x3 then need
 (O.R 0 74 [V.int .i64 y2]) fun x4 => asTup (some x4) fun x5 => PI.asBool x5[0]? fun x6 => bif !x6 then some (V.tup [V.bool true]) else some (V.tup [V.bool (decide (y1 < y2))]) else some (V.tup [V.bool
 (decide (y1 < y2))])
theorem e61 (k m q0 q1 : Nat) (y1 : Int) (y2 : Int) : runV C (k + 1) 61 [V.int .i64 y1, V.int .i64 y2] = T61 (orc C k) k m q0 q1 y1 y2 := by kernel_rfl
theorem E61 (y1 : Int) (y2 : Int) {r : V} (h : T61 (orcE C) 0 0 0 0 y1 y2 = some r) : runE C 61 [V.int .i64 y1, V.int .i64 y2] = some r := ofR (F := fun s => T61 (orc C s.k) s.k s.m 0 0 y1 y2) (fun k
 => e61 k k 0 0 y1 y2) (by
  unfold T61
  repeat' first | with_reducible exact cC | with_reducible refine cN cR fun _ => ?_ | with_reducible refine cT fun _ => ?_ | with_reducible refine cF ?_ ?_ | with_reducible refine cB fun _ => ?_ | with_reducible refine cN cC fun _ => ?_ | with_reducible exact cR) h

noncomputable def T62 (O : Orc) (k m q0 q1 : Nat) (y1 : Int) : Option V := some (V.tup [V.bool (y1 != y1)])
theorem e62 (k m q0 q1 : Nat) (y1 : Int) : runV C (k + 1) 62 [V.int .i64 y1] = T62 (orc C k) k m q0 q1 y1 := by kernel_rfl
theorem E62 (y1 : Int) {r : V} (h : T62 (orcE C) 0 0 0 0 y1 = some r) : runE C 62 [V.int .i64 y1] = some r := ofR (F := fun s => T62 (orc C s.k) s.k s.m 0 0 y1) (fun k => e62 k k 0 0 y1) (by
  unfold T62
  exact cC) h

noncomputable def T60l1 (O : Orc) (k m q0 q1 : Nat) (y1 : Nat) (y2 : List V) (y3 : Int) (y4 : Int) : Option V := bif decide (y4 < (↑y1 : Int)) then must (inB y4 y1) (PI.asInt .i64 y2[y4.toNat * 1]? fun
 x1 => bif x1 != y3 then some (V.tup [V.int .i64 (-1)]) else O.L 0 60 0 [true, false, true] [] m [(0, V.sl y1 y2), (1, V.int .i64 (IntKind.i64.wrap (y3 + 1))), (5, V.int .i64 (IntKind.i64.wrap (y4 +
 1)))] []) else some (V.tup [V.int .i64 y3])
theorem e60l1 (k m q0 q1 : Nat) (y1 : Nat) (y2 : List V) (y3 : Int) (y4 : Int) : runL C k 60 0 [true, false, true] [] (m + 1) [(0, V.sl y1 y2), (1, V.int .i64 y3), (5, V.int .i64 y4)] [] = T60l1 (orc C
 k) k m q0 q1 y1 y2 y3 y4 := by kernel_rfl
theorem E60l1 (y1 : Nat) (y2 : List V) (y3 : Int) (y4 : Int) {r : V} (h : T60l1 (orcE C) 0 0 0 0 y1 y2 y3 y4 = some r) : loopE C 60 0 [true, false, true] [] [(0, V.sl y1 y2), (1, V.int .i64 y3), (5,
 V.int .i64 y4)] [] = some r := ofL (j := 0) (F := fun s => T60l1 (orc C s.k) s.k s.m 0 0 y1 y2 y3 y4) (fs0 fun k m => e60l1 k m 0 0 y1 y2 y3 y4) (by
  unfold T60l1
  repeat' first | with_reducible exact cC | with_reducible refine cI fun _ => ?_ | with_reducible refine cM ?_ | with_reducible refine cF ?_ ?_ | exact cD0 gM) h

noncomputable def T28l2 (O : Orc) (k m q0 q1 : Nat) (y1 : Int) (y2 : Nat) (y3 : List V) (y4 : Int) (y5 : Int) (y6 : Int) (y7 : Int) (y8 : Int) (y9 : Int) (y10 : Bool) (y11 : Nat) (y12 : List V) (y13 :
 Int) (y14 : Int) (y15 : Int) (y16 : Int) (y17 : Int) (y18 : Bool) (y19 : Nat) (y20 : List V) : Option V := need (O.W 0 52 [] [V.ptr 0 0, V.int .i64 2] [Ob.box 80 [V.sl y2 y3, V.int .i64 y4] false])
 fun x1 => asTup (some x1) fun x2 => PI.asInt .i64 x2[0]? fun x3 => asSl x2[1]? fun x4 x5 => PI.asInt .i64 x2[2]? fun x6 => bif decide (y1 < IntKind.i64.wrap (60 + x3)) then must (true && (y19 + 1).ble
 140737488355328 && ((y19 + 1) * 8).ble 140737488355328) (O.X 0 28 [] [Ob.box 80 [V.u, V.u] false] 3 [true, true, true, true, true, true, true, true, true, false, true, false, true, true, true, true,
 true, true, true, true, true, true, true, true, true, false, true, true] [] m [(0, V.ptr 0 0), (2, V.ptr 1 0), (3, V.ptr 3 0), (7, V.int .i64 (IntKind.i64.wrap (y1 + 1)))] [Ob.box 80 [V.sl x4 x5,
 V.int .i64 x6] false, Ob.box 26 [V.int .i64 y5, V.int .i64 y6, V.int .i64 y7, V.int .i64 y8, V.ref 2, V.int .i64 y9, V.bool y10] false, Ob.row 2 y11 y12 false, Ob.box 26 [V.int .i64 y13, V.int .i64
 y14, V.int .i64 y15, V.int .i64 y16, V.ref 4, V.int .i64 y17, V.bool y18] false, Ob.row 2 (y19 + 1) (y20 ++ [V.int .i64 (IntKind.i64.wrap (100 + y1))]) false]) else some (V.tup [V.int .i64 y13, V.int
 .i64 y14, V.int .i64 y15, V.int .i64 y16, V.sl y19 y20, V.int .i64 y17, V.bool y18, V.sl x4 x5, V.int .i64 x6])
theorem e28l2 (k m q0 q1 : Nat) (y1 : Int) (y2 : Nat) (y3 : List V) (y4 : Int) (y5 : Int) (y6 : Int) (y7 : Int) (y8 : Int) (y9 : Int) (y10 : Bool) (y11 : Nat) (y12 : List V) (y13 : Int) (y14 : Int)
 (y15 : Int) (y16 : Int) (y17 : Int) (y18 : Bool) (y19 : Nat) (y20 : List V) : runLW C k 28 [] [Ob.box 80 [V.u, V.u] false] 3 [true, true, true, true, true, true, true, true, true, false, true, false,
 true, true, true, true, true, true, true, true, true, true, true, true, true, false, true, true] [] (m + 1) [(0, V.ptr 0 0), (2, V.ptr 1 0), (3, V.ptr 3 0), (7, V.int .i64 y1)] [Ob.box 80 [V.sl y2 y3,
 V.int .i64 y4] false, Ob.box 26 [V.int .i64 y5, V.int .i64 y6, V.int .i64 y7, V.int .i64 y8, V.ref 2, V.int .i64 y9, V.bool y10] false, Ob.row 2 y11 y12 false, Ob.box 26 [V.int .i64 y13, V.int .i64
 y14, V.int .i64 y15, V.int .i64 y16, V.ref 4, V.int .i64 y17, V.bool y18] false, Ob.row 2 y19 y20 false] = T28l2 (orc C k) k m q0 q1 y1 y2 y3 y4 y5 y6 y7 y8 y9 y10 y11 y12 y13 y14 y15 y16 y17 y18 y19
 y20 := by kernel_rfl
theorem E28l2 (y1 : Int) (y2 : Nat) (y3 : List V) (y4 : Int) (y5 : Int) (y6 : Int) (y7 : Int) (y8 : Int) (y9 : Int) (y10 : Bool) (y11 : Nat) (y12 : List V) (y13 : Int) (y14 : Int) (y15 : Int) (y16 :
 Int) (y17 : Int) (y18 : Bool) (y19 : Nat) (y20 : List V) {r : V} (h : T28l2 (orcE C) 0 0 0 0 y1 y2 y3 y4 y5 y6 y7 y8 y9 y10 y11 y12 y13 y14 y15 y16 y17 y18 y19 y20 = some r) : loopWE C 28 [] [Ob.box
 80 [V.u, V.u] false] 3 [true, true, true, true, true, true, true, true, true, false, true, false, true, true, true, true, true, true, true, true, true, true, true, true, true, false, true, true] []
 [(0, V.ptr 0 0), (2, V.ptr 1 0), (3, V.ptr 3 0), (7, V.int .i64 y1)] [Ob.box 80 [V.sl y2 y3, V.int .i64 y4] false, Ob.box 26 [V.int .i64 y5, V.int .i64 y6, V.int .i64 y7, V.int .i64 y8, V.ref 2, V.int
 .i64 y9, V.bool y10] false, Ob.row 2 y11 y12 false, Ob.box 26 [V.int .i64 y13, V.int .i64 y14, V.int .i64 y15, V.int .i64 y16, V.ref 4, V.int .i64 y17, V.bool y18] false, Ob.row 2 y19 y20 false] =
 some r := ofX (j := 0) (F := fun s => T28l2 (orc C s.k) s.k s.m 0 0 y1 y2 y3 y4 y5 y6 y7 y8 y9 y10 y11 y12 y13 y14 y15 y16 y17 y18 y19 y20) (fs0 fun k m => e28l2 k m 0 0 y1 y2 y3 y4 y5 y6 y7 y8 y9 y10
 y11 y12 y13 y14 y15 y16 y17 y18 y19 y20) (by
  unfold T28l2
  repeat' first | with_reducible exact cC | with_reducible refine cN cQ fun _ => ?_ | with_reducible refine cT fun _ => ?_ | with_reducible refine cI fun _ => ?_ | with_reducible refine cM ?_ | with_reducible refine cF ?_ ?_ | with_reducible refine cL fun _ _ => ?_ | with_reducible refine cN cC fun _ => ?_ | with_reducible exact cQ | exact cX0 gM) h

noncomputable def T74 (O : Orc) (k m q0 q1 : Nat) (y1 : Int) : Option V := some (V.tup [V.bool (y1 != y1)])
theorem e74 (k m q0 q1 : Nat) (y1 : Int) : runV C (k + 1) 74 [V.int .i64 y1] = T74 (orc C k) k m q0 q1 y1 := by kernel_rfl
theorem E74 (y1 : Int) {r : V} (h : T74 (orcE C) 0 0 0 0 y1 = some r) : runE C 74 [V.int .i64 y1] = some r := ofR (F := fun s => T74 (orc C s.k) s.k s.m 0 0 y1) (fun k => e74 k k 0 0 y1) (by
  unfold T74
  exact cC) h

end Go.Proofs.YtkjjneejmjfhlaaDoor.EqE

