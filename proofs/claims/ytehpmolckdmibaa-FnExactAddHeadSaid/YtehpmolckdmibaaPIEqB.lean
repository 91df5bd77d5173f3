/-
  The functions of a table, as the interpreter tells them. Printed by a program.
-/
import Derived.Test.YtehpmolckdmibaaPITabB
import Derived.Test.YtehpmolckdmibaaPIPlain
import Derived.KernelRfl
namespace Go.Proofs.Ytehpmolckdmibaa.EqB
open Go Go.PI
set_option maxRecDepth 100000
set_option maxHeartbeats 4000000
set_option linter.unusedVariables false
set_option linter.unusedSimpArgs false
noncomputable abbrev C := tabB.cfg

noncomputable def T10 (O : Orc) (k m q0 q1 : Nat) (y1 : Nat) (y2 : List V) (y3 : Int) (y4 : Nat) (y5 : List V) (y6 : Int) (y7 : Int) (y8 : Int) (y9 : Nat) (y10 : List V) (y11 : Int) : Option V := need
 (O.R 0 76 [V.agg [V.sl y1 y2, V.int .i64 y3], V.int .i64 1048576]) fun x1 => asTup (some x1) fun x2 => PI.asInt .i64 x2[0]? fun x3 => bif decide (x3 < 0) then some (V.tup [V.bool true]) else need (O.R
 0 41 [V.agg [V.sl y4 y5, V.int .i64 y6, V.int .i64 y7, V.int .i64 y8, V.sl y9 y10, V.int .i64 y11], V.int .i64 x3]) fun x4 => asTup (some x4) fun x5 => PI.asInt .i64 x5[0]? fun x6 => bif decide (x6 <
 0) then some (V.tup [V.bool true]) else need (O.R 0 78 [V.agg [V.sl y1 y2, V.int .i64 y3]]) fun x7 => asTup (some x7) fun x8 => asOsl x8[0]? fun x9 x10 => PI.asInt .i64 x8[1]? fun x11 => need (O.R 0
 43 [V.agg [V.sl y4 y5, V.int .i64 y6, V.int .i64 y7, V.int .i64 y8, V.sl y9 y10, V.int .i64 y11]]) fun x12 => asTup (some x12) fun x13 => asOsl x13[0]? fun x14 x15 => PI.asInt .i64 x13[1]? fun x16 =>
 PI.asInt .i64 x13[2]? fun x17 => PI.asInt .i64 x13[3]? fun x18 => asOsl x13[4]? fun x19 x20 => PI.asInt .i64 x13[5]? fun x21 => need (O.R 0 77 [V.agg [V.sl x9 (bareL x10), V.int .i64 x11], V.agg [V.sl
 x14 x15, V.int .i64 x16, V.int .i64 x17, V.int .i64 x18, V.sl x19 x20, V.int .i64 x21]]) fun x22 => asTup (some x22) fun x23 => PI.asInt .i64 x23[0]? fun x24 => asOsl x23[1]? fun x25 x26 => PI.asInt
 .i64 x23[2]? fun x27 => need (O.R 0 78 [V.agg [V.sl y1 y2, V.int .i64 y3]]) fun x28 => asTup (some x28) fun x29 => asOsl x29[0]? fun x30 x31 => PI.asInt .i64 x29[1]? fun x32 => need (O.R 0 43 [V.agg
 [V.sl y4 y5, V.int .i64 y6, V.int .i64 y7, V.int .i64 y8, V.sl y9 y10, V.int .i64 y11]]) fun x33 => asTup (some x33) fun x34 => asOsl x34[0]? fun x35 x36 => PI.asInt .i64 x34[1]? fun x37 => PI.asInt
 .i64 x34[2]? fun x38 => PI.asInt .i64 x34[3]? fun x39 => asOsl x34[4]? fun x40 x41 => PI.asInt .i64 x34[5]? fun x42 => need (O.R 0 79 [V.agg [V.sl x30 (bareL x31), V.int .i64 x32], V.agg [V.sl x35
 x36, V.int .i64 x37, V.int .i64 x38, V.int .i64 x39, V.sl x40 x41, V.int .i64 x42]]) fun x43 => asTup (some x43) fun x44 => PI.asInt .i64 x44[0]? fun x45 => asOsl x44[1]? fun x46 x47 => PI.asInt .i64
 x44[2]? fun x48 => need (O.R 0 45 [V.agg [V.int .i64 x45, V.sl x46 (bareL x47), V.int .i64 x48], V.agg [V.int .i64 x24, V.sl x25 (bareL x26), V.int .i64 x27]]) fun x49 => asTup (some x49) fun x50 =>
 PI.asBool x50[0]? fun x51 => bif !x51 then some (V.tup [V.bool false]) else need (O.R 0 78 [V.agg [V.sl y1 y2, V.int .i64 y3]]) fun x52 => asTup (some x52) fun x53 => asOsl x53[0]? fun x54 x55 =>
 PI.asInt .i64 x53[1]? fun x56 => need (O.R 0 80 [V.agg [V.sl x30 (bareL x31), V.int .i64 x32], V.agg [V.sl x54 (bareL x55), V.int .i64 x56]]) fun x57 => asTup (some x57) fun x58 => PI.asBool x58[0]?
 fun x59 => bif !x59 then some (V.tup [V.bool false]) else need (O.R 0 43 [V.agg [V.sl y4 y5, V.int .i64 y6, V.int .i64 y7, V.int .i64 y8, V.sl y9 y10, V.int .i64 y11]]) fun x60 => asTup (some x60) fun
 x61 => asOsl x61[0]? fun x62 x63 => PI.asInt .i64 x61[1]? fun x64 => PI.asInt .i64 x61[2]? fun x65 => PI.asInt .i64 x61[3]? fun x66 => asOsl x61[4]? fun x67 x68 => PI.asInt .i64 x61[5]? fun x69 =>
 need (O.R 0 46 [V.agg [V.sl x35 x36, V.int .i64 x37, V.int .i64 x38, V.int .i64 x39, V.sl x40 x41, V.int .i64 x42], V.agg [V.sl x62 x63, V.int .i64 x64, V.int .i64 x65, V.int .i64 x66, V.sl x67 x68,
 V.int .i64 x69]]) fun x70 => asTup (some x70) fun x71 => PI.asBool x71[0]? fun x72 => bif !x72 then some (V.tup [V.bool false]) else need (O.W 0 81 [0] [V.agg [V.ref 0, V.int .i64 x32], V.int .i64 1]
 [Ob.nrow [] 42 x30 x31]) fun x73 => asTup (some x73) fun x74 => PI.asInt .i64 x74[0]? fun x75 => asOsl x74[1]? fun x76 x77 => need (O.W 0 47 [0, 1] [V.agg [V.ref 0, V.int .i64 x37, V.int .i64 x38,
 V.int .i64 x39, V.ref 1, V.int .i64 x42], V.int .i64 x75] [Ob.row 5 x35 x36 false, Ob.row 5 x40 x41 false]) fun x78 => asTup (some x78) fun x79 => PI.asInt .i64 x79[0]? fun x80 => asOsl x79[1]? fun
 x81 x82 => asOsl x79[2]? fun x83 x84 => bif decide (x80 < 0) then some (V.tup [V.bool false]) else need (O.R 0 45 [V.agg [V.int .i64 x45, V.sl x46 (bareL x47), V.int .i64 x48], V.agg [V.int .i64 x24,
 V.sl x25 (bareL x26), V.int .i64 x27]]) fun x85 => asTup (some x85) fun x86 => PI.asBool x86[0]? fun x87 => bif !x87 then some (V.tup [V.bool false]) else need (O.W 0 48 [0] [V.agg [V.int .i64 x45,
 V.ref 0, V.int .i64 x48], V.int .i64 1] [Ob.nrow [] 42 x46 x47]) fun x88 => asTup (some x88) fun x89 => PI.asInt .i64 x89[0]? fun x90 => asOsl x89[1]? fun x91 x92 => need (O.R 0 49 [V.agg [V.int .i64
 x45, V.sl x91 (bareL x92), V.int .i64 x48], V.int .i64 1]) fun x93 => asTup (some x93) fun x94 => PI.asInt .i64 x94[0]? fun x95 => bif decide (x95 < 0) then some (V.tup [V.bool false]) else bif x95 !=
 x90 then some (V.tup [V.bool false]) else need (O.R 0 78 [V.agg [V.sl y1 y2, V.int .i64 y3]]) fun x96 => asTup (some x96) fun x97 => asOsl x97[0]? fun x98 x99 => PI.asInt .i64 x97[1]? fun x100 => need
 (O.R 0 43 [V.agg [V.sl y4 y5, V.int .i64 y6, V.int .i64 y7, V.int .i64 y8, V.sl y9 y10, V.int .i64 y11]]) fun x101 => asTup (some x101) fun x102 => asOsl x102[0]? fun x103 x104 => PI.asInt .i64
 x102[1]? fun x105 => PI.asInt .i64 x102[2]? fun x106 => PI.asInt .i64 x102[3]? fun x107 => asOsl x102[4]? fun x108 x109 => PI.asInt .i64 x102[5]? fun x110 => need (O.R 0 79 [V.agg [V.sl x98 (bareL
 x99), V.int .i64 x100], V.agg [V.sl x103 x104, V.int .i64 x105, V.int .i64 x106, V.int .i64 x107, V.sl x108 x109, V.int .i64 x110]]) fun x111 => asTup (some x111) fun x112 => PI.asInt .i64 x112[0]?
 fun x113 => asOsl x112[1]? fun x114 x115 => PI.asInt .i64 x112[2]? fun x116 => need (O.R 0 45 [V.agg [V.int .i64 x113, V.sl x114 (bareL x115), V.int .i64 x116], V.agg [V.int .i64 x24, V.sl x25 (bareL
 x26), V.int .i64 x27]]) fun x117 => asTup (some x117) fun x118 => PI.asBool x118[0]? fun x119 => bif !x119 then some (V.tup [V.bool false]) else need (O.R 0 49 [V.agg [V.int .i64 x45, V.sl x91 (bareL
 x92), V.int .i64 x48], V.int .i64 1]) fun x120 => asTup (some x120) fun x121 => PI.asInt .i64 x121[0]? fun x122 => bif decide (x122 < 0) then some (V.tup [V.bool false]) else bif x122 != x90 then some
 (V.tup [V.bool false]) else some (V.tup [V.bool true])
theorem e10 (k m q0 q1 : Nat) (y1 : Nat) (y2 : List V) (y3 : Int) (y4 : Nat) (y5 : List V) (y6 : Int) (y7 : Int) (y8 : Int) (y9 : Nat) (y10 : List V) (y11 : Int) : runV C (k + 1) 10 [V.agg [V.sl y1 y2,
 V.int .i64 y3], V.agg [V.sl y4 y5, V.int .i64 y6, V.int .i64 y7, V.int .i64 y8, V.sl y9 y10, V.int .i64 y11]] = T10 (orc C k) k m q0 q1 y1 y2 y3 y4 y5 y6 y7 y8 y9 y10 y11 := by kernel_rfl
theorem E10 (y1 : Nat) (y2 : List V) (y3 : Int) (y4 : Nat) (y5 : List V) (y6 : Int) (y7 : Int) (y8 : Int) (y9 : Nat) (y10 : List V) (y11 : Int) {r : V} (h : T10 (orcE C) 0 0 0 0 y1 y2 y3 y4 y5 y6 y7 y8
 y9 y10 y11 = some r) : runE C 10 [V.agg [V.sl y1 y2, V.int .i64 y3], V.agg [V.sl y4 y5, V.int .i64 y6, V.int .i64 y7, V.int .i64 y8, V.sl y9 y10, V.int .i64 y11]] = some r := ofR (F := fun s => T10
 (orc C s.k) s.k s.m 0 0 y1 y2 y3 y4 y5 y6 y7 y8 y9 y10 y11) (fun k => e10 k k 0 0 y1 y2 y3 y4 y5 y6 y7 y8 y9 y10 y11) (by
  unfold T10
  repeat' first | with_reducible exact cC | with_reducible refine cN cR fun _ => ?_ | with_reducible refine cN cQ fun _ => ?_ | with_reducible refine cT fun _ => ?_ | with_reducible refine cI fun _ => ?_ | with_reducible refine cF ?_ ?_ | with_reducible refine cB fun _ => ?_ | with_reducible refine cO fun _ _ => ?_ | with_reducible refine cN cC fun _ => ?_ | with_reducible exact cR | with_reducible exact cQ) h

noncomputable def T76 (O : Orc) (k m q0 q1 : Nat) (y1 : Nat) (y2 : List V) (y3 : Int) (y4 : Int) : Option V := need (O.R 0 156 [V.sl y1 y2, V.int .i64 y4]) fun x1 => asTup (some x1) fun x2 => PI.asInt
 .i64 x2[0]? fun x3 => bif decide (x3 < 0) then some (V.tup [V.int .i64 (-1)]) else some (V.tup [V.int .i64 x3])
theorem e76 (k m q0 q1 : Nat) (y1 : Nat) (y2 : List V) (y3 : Int) (y4 : Int) : runV C (k + 1) 76 [V.agg [V.sl y1 y2, V.int .i64 y3], V.int .i64 y4] = T76 (orc C k) k m q0 q1 y1 y2 y3 y4 := by
 kernel_rfl
theorem E76 (y1 : Nat) (y2 : List V) (y3 : Int) (y4 : Int) {r : V} (h : T76 (orcE C) 0 0 0 0 y1 y2 y3 y4 = some r) : runE C 76 [V.agg [V.sl y1 y2, V.int .i64 y3], V.int .i64 y4] = some r := ofR (F :=
 fun s => T76 (orc C s.k) s.k s.m 0 0 y1 y2 y3 y4) (fun k => e76 k k 0 0 y1 y2 y3 y4) (by
  unfold T76
  repeat' first | with_reducible exact cC | with_reducible refine cN cR fun _ => ?_ | with_reducible refine cT fun _ => ?_ | with_reducible refine cI fun _ => ?_ | with_reducible refine cF ?_ ?_ | with_reducible refine cN cC fun _ => ?_ | with_reducible exact cR) h

noncomputable def T41 (O : Orc) (k m q0 q1 : Nat) (y1 : Nat) (y2 : List V) (y3 : Int) (y4 : Int) (y5 : Int) (y6 : Nat) (y7 : List V) (y8 : Int) (y9 : Int) : Option V := need (O.R 0 115 [V.sl y1 y2,
 V.int .i64 y9]) fun x1 => asTup (some x1) fun x2 => PI.asInt .i64 x2[0]? fun x3 => bif decide (x3 < 0) then some (V.tup [V.int .i64 (-1)]) else need (O.R 0 115 [V.sl y6 y7, V.int .i64 x3]) fun x4 =>
 asTup (some x4) fun x5 => PI.asInt .i64 x5[0]? fun x6 => bif decide (x6 < 0) then some (V.tup [V.int .i64 (-1)]) else some (V.tup [V.int .i64 x6])
theorem e41 (k m q0 q1 : Nat) (y1 : Nat) (y2 : List V) (y3 : Int) (y4 : Int) (y5 : Int) (y6 : Nat) (y7 : List V) (y8 : Int) (y9 : Int) : runV C (k + 1) 41 [V.agg [V.sl y1 y2, V.int .i64 y3, V.int .i64
 y4, V.int .i64 y5, V.sl y6 y7, V.int .i64 y8], V.int .i64 y9] = T41 (orc C k) k m q0 q1 y1 y2 y3 y4 y5 y6 y7 y8 y9 := by kernel_rfl
theorem E41 (y1 : Nat) (y2 : List V) (y3 : Int) (y4 : Int) (y5 : Int) (y6 : Nat) (y7 : List V) (y8 : Int) (y9 : Int) {r : V} (h : T41 (orcE C) 0 0 0 0 y1 y2 y3 y4 y5 y6 y7 y8 y9 = some r) : runE C 41
 [V.agg [V.sl y1 y2, V.int .i64 y3, V.int .i64 y4, V.int .i64 y5, V.sl y6 y7, V.int .i64 y8], V.int .i64 y9] = some r := ofR (F := fun s => T41 (orc C s.k) s.k s.m 0 0 y1 y2 y3 y4 y5 y6 y7 y8 y9) (fun
 k => e41 k k 0 0 y1 y2 y3 y4 y5 y6 y7 y8 y9) (by
  unfold T41
  repeat' first | with_reducible exact cC | with_reducible refine cN cR fun _ => ?_ | with_reducible refine cT fun _ => ?_ | with_reducible refine cI fun _ => ?_ | with_reducible refine cF ?_ ?_ | with_reducible refine cN cC fun _ => ?_ | with_reducible exact cR) h

noncomputable def T78 (O : Orc) (k m q0 q1 : Nat) (y1 : Nat) (y2 : List V) (y3 : Int) : Option V := need (O.R 0 159 [V.sl y1 y2]) fun x1 => asTup (some x1) fun x2 => asOsl x2[0]? fun x3 x4 => some
 (V.tup [V.osl x3 x4, V.int .i64 y3])
theorem e78 (k m q0 q1 : Nat) (y1 : Nat) (y2 : List V) (y3 : Int) : runV C (k + 1) 78 [V.agg [V.sl y1 y2, V.int .i64 y3]] = T78 (orc C k) k m q0 q1 y1 y2 y3 := by kernel_rfl
theorem E78 (y1 : Nat) (y2 : List V) (y3 : Int) {r : V} (h : T78 (orcE C) 0 0 0 0 y1 y2 y3 = some r) : runE C 78 [V.agg [V.sl y1 y2, V.int .i64 y3]] = some r := ofR (F := fun s => T78 (orc C s.k) s.k
 s.m 0 0 y1 y2 y3) (fun k => e78 k k 0 0 y1 y2 y3) (by
  unfold T78
  repeat' first | with_reducible exact cC | with_reducible refine cN cR fun _ => ?_ | with_reducible refine cT fun _ => ?_ | with_reducible refine cO fun _ _ => ?_ | with_reducible refine cN cC fun _ => ?_ | with_reducible exact cR) h

noncomputable def T43 (O : Orc) (k m q0 q1 : Nat) (y1 : Nat) (y2 : List V) (y3 : Int) (y4 : Int) (y5 : Int) (y6 : Nat) (y7 : List V) (y8 : Int) : Option V := need (O.R 0 119 [V.sl y1 y2]) fun x1 =>
 asTup (some x1) fun x2 => asOsl x2[0]? fun x3 x4 => need (O.R 0 119 [V.sl y6 y7]) fun x5 => asTup (some x5) fun x6 => asOsl x6[0]? fun x7 x8 => must (false || x4.all flatV) (must (false || x8.all
 flatV) (some (V.tup [V.osl x3 x4, V.int .i64 y3, V.int .i64 y4, V.int .i64 y5, V.osl x7 x8, V.int .i64 y8])))
theorem e43 (k m q0 q1 : Nat) (y1 : Nat) (y2 : List V) (y3 : Int) (y4 : Int) (y5 : Int) (y6 : Nat) (y7 : List V) (y8 : Int) : runV C (k + 1) 43 [V.agg [V.sl y1 y2, V.int .i64 y3, V.int .i64 y4, V.int
 .i64 y5, V.sl y6 y7, V.int .i64 y8]] = T43 (orc C k) k m q0 q1 y1 y2 y3 y4 y5 y6 y7 y8 := by kernel_rfl
theorem E43 (y1 : Nat) (y2 : List V) (y3 : Int) (y4 : Int) (y5 : Int) (y6 : Nat) (y7 : List V) (y8 : Int) {r : V} (h : T43 (orcE C) 0 0 0 0 y1 y2 y3 y4 y5 y6 y7 y8 = some r) : runE C 43 [V.agg [V.sl y1
 y2, V.int .i64 y3, V.int .i64 y4, V.int .i64 y5, V.sl y6 y7, V.int .i64 y8]] = some r := ofR (F := fun s => T43 (orc C s.k) s.k s.m 0 0 y1 y2 y3 y4 y5 y6 y7 y8) (fun k => e43 k k 0 0 y1 y2 y3 y4 y5 y6
 y7 y8) (by
  unfold T43
  repeat' first | with_reducible exact cC | with_reducible refine cN cR fun _ => ?_ | with_reducible refine cT fun _ => ?_ | with_reducible refine cM ?_ | with_reducible refine cO fun _ _ => ?_ | with_reducible refine cN cC fun _ => ?_ | with_reducible exact cR) h

noncomputable def T77 (O : Orc) (k m q0 q1 : Nat) (y1 : Nat) (y2 : List V) (y3 : Int) (y4 : Nat) (y5 : List V) (y6 : Int) (y7 : Int) (y8 : Int) (y9 : Nat) (y10 : List V) (y11 : Int) : Option V := need
 (O.R 0 127 [V.agg [V.sl y1 y2, V.int .i64 y3]]) fun x1 => asTup (some x1) fun x2 => PI.asInt .i64 x2[0]? fun x3 => bif x3 != 0 then some (V.tup [V.int .i64 x3, V.osl 0 [], V.int .i64 0]) else need
 (O.R 0 157 [V.agg [V.sl y1 y2, V.int .i64 y3]]) fun x4 => asTup (some x4) fun x5 => asOsl x5[0]? fun x6 x7 => PI.asInt .i64 x5[1]? fun x8 => need (O.W 0 158 [] [V.ptr 0 0, V.agg [V.sl y4 y5, V.int
 .i64 y6, V.int .i64 y7, V.int .i64 y8, V.sl y9 y10, V.int .i64 y11]] [Ob.box 81 [V.ref 1, V.int .i64 x8] false, Ob.nrow [] 42 x6 x7]) fun x9 => asTup (some x9) fun x10 => PI.asInt .i64 x10[0]? fun x11
 => asOsl x10[1]? fun x12 x13 => PI.asInt .i64 x10[2]? fun x14 => bif x11 != 0 then some (V.tup [V.int .i64 x11, V.osl 0 [], V.int .i64 0]) else some (V.tup [V.int .i64 0, V.osl x12 x13, V.int .i64
 x14])
theorem e77 (k m q0 q1 : Nat) (y1 : Nat) (y2 : List V) (y3 : Int) (y4 : Nat) (y5 : List V) (y6 : Int) (y7 : Int) (y8 : Int) (y9 : Nat) (y10 : List V) (y11 : Int) : runV C (k + 1) 77 [V.agg [V.sl y1 y2,
 V.int .i64 y3], V.agg [V.sl y4 y5, V.int .i64 y6, V.int .i64 y7, V.int .i64 y8, V.sl y9 y10, V.int .i64 y11]] = T77 (orc C k) k m q0 q1 y1 y2 y3 y4 y5 y6 y7 y8 y9 y10 y11 := by kernel_rfl
theorem E77 (y1 : Nat) (y2 : List V) (y3 : Int) (y4 : Nat) (y5 : List V) (y6 : Int) (y7 : Int) (y8 : Int) (y9 : Nat) (y10 : List V) (y11 : Int) {r : V} (h : T77 (orcE C) 0 0 0 0 y1 y2 y3 y4 y5 y6 y7 y8
 y9 y10 y11 = some r) : runE C 77 [V.agg [V.sl y1 y2, V.int .i64 y3], V.agg [V.sl y4 y5, V.int .i64 y6, V.int .i64 y7, V.int .i64 y8, V.sl y9 y10, V.int .i64 y11]] = some r := ofR (F := fun s => T77
 (orc C s.k) s.k s.m 0 0 y1 y2 y3 y4 y5 y6 y7 y8 y9 y10 y11) (fun k => e77 k k 0 0 y1 y2 y3 y4 y5 y6 y7 y8 y9 y10 y11) (by
  unfold T77
  repeat' first | with_reducible exact cC | with_reducible refine cN cR fun _ => ?_ | with_reducible refine cN cQ fun _ => ?_ | with_reducible refine cT fun _ => ?_ | with_reducible refine cI fun _ => ?_ | with_reducible refine cF ?_ ?_ | with_reducible refine cO fun _ _ => ?_ | with_reducible refine cN cC fun _ => ?_ | with_reducible exact cR | with_reducible exact cQ) h

noncomputable def T79 (O : Orc) (k m q0 q1 : Nat) (y1 : Nat) (y2 : List V) (y3 : Int) (y4 : Nat) (y5 : List V) (y6 : Int) (y7 : Int) (y8 : Int) (y9 : Nat) (y10 : List V) (y11 : Int) : Option V := need
 (O.R 0 129 [V.agg [V.sl y1 y2, V.int .i64 y3]]) fun x1 => asTup (some x1) fun x2 => PI.asInt .i64 x2[0]? fun x3 => bif x3 != 0 then some (V.tup [V.int .i64 x3, V.osl 0 [], V.int .i64 0]) else need
 (O.R 0 160 [V.agg [V.sl y1 y2, V.int .i64 y3], V.agg [V.sl y4 y5, V.int .i64 y6, V.int .i64 y7, V.int .i64 y8, V.sl y9 y10, V.int .i64 y11]]) fun x4 => asTup (some x4) fun x5 => PI.asInt .i64 x5[0]?
 fun x6 => bif x6 != 0 then some (V.tup [V.int .i64 x6, V.osl 0 [], V.int .i64 0]) else both (need (O.R 0 161 [V.sl y1 y2]) fun x7 => asTup (some x7) fun x8 => asOsl x8[0]? fun x9 x10 => must (true &&
 (x9 + 1).ble 140737488355328 && ((x9 + 1) * 80).ble 140737488355328) (need (O.R 0 128 [V.sl (x9 + 1) (x10 ++ [V.sl y4 y5, V.int .i64 y6, V.int .i64 y7, V.int .i64 y8, V.sl y9 y10, V.int .i64 y11]),
 V.int .i64 y3]) fun x11 => asTup (some x11) fun x12 => asOsl x12[0]? fun x13 x14 => PI.asInt .i64 x12[1]? fun x15 => some (V.tup [V.int .i64 0, V.osl x13 x14, V.int .i64 x15]))) (need (O.R 0 161 [V.sl
 y1 y2]) fun x16 => asTup (some x16) fun x17 => asOsl x17[0]? fun x18 x19 => must (true && (x18 + 1).ble 140737488355328 && ((x18 + 1) * 80).ble 140737488355328) (need (O.R 0 128 [V.sl (x18 + 1) (x19
 ++ [V.sl y4 y5, V.int .i64 y6, V.int .i64 y7, V.int .i64 y8, V.sl y9 y10, V.int .i64 y11]), V.int .i64 y3]) fun x20 => asTup (some x20) fun x21 => asOsl x21[0]? fun x22 x23 => PI.asInt .i64 x21[1]?
 fun x24 => some (V.tup [V.int .i64 0, V.osl x22 x23, V.int .i64 x24])))
theorem e79 (k m q0 q1 : Nat) (y1 : Nat) (y2 : List V) (y3 : Int) (y4 : Nat) (y5 : List V) (y6 : Int) (y7 : Int) (y8 : Int) (y9 : Nat) (y10 : List V) (y11 : Int) : runV C (k + 1) 79 [V.agg [V.sl y1 y2,
 V.int .i64 y3], V.agg [V.sl y4 y5, V.int .i64 y6, V.int .i64 y7, V.int .i64 y8, V.sl y9 y10, V.int .i64 y11]] = T79 (orc C k) k m q0 q1 y1 y2 y3 y4 y5 y6 y7 y8 y9 y10 y11 := by kernel_rfl
theorem E79 (y1 : Nat) (y2 : List V) (y3 : Int) (y4 : Nat) (y5 : List V) (y6 : Int) (y7 : Int) (y8 : Int) (y9 : Nat) (y10 : List V) (y11 : Int) {r : V} (h : T79 (orcE C) 0 0 0 0 y1 y2 y3 y4 y5 y6 y7 y8
 y9 y10 y11 = some r) : runE C 79 [V.agg [V.sl y1 y2, V.int .i64 y3], V.agg [V.sl y4 y5, V.int .i64 y6, V.int .i64 y7, V.int .i64 y8, V.sl y9 y10, V.int .i64 y11]] = some r := ofR (F := fun s => T79
 (orc C s.k) s.k s.m 0 0 y1 y2 y3 y4 y5 y6 y7 y8 y9 y10 y11) (fun k => e79 k k 0 0 y1 y2 y3 y4 y5 y6 y7 y8 y9 y10 y11) (by
  unfold T79
  repeat' first | with_reducible exact cC | with_reducible refine cN cR fun _ => ?_ | with_reducible refine cT fun _ => ?_ | with_reducible refine cI fun _ => ?_ | with_reducible refine cM ?_ | with_reducible refine cF ?_ ?_ | with_reducible refine cO fun _ _ => ?_ | with_reducible refine cN cC fun _ => ?_ | with_reducible refine cW ?_ ?_ | with_reducible exact cR) h

noncomputable def T45 (O : Orc) (k m q0 q1 : Nat) (y1 : Int) (y2 : Nat) (y3 : List V) (y4 : Int) (y5 : Int) (y6 : Nat) (y7 : List V) (y8 : Int) : Option V := bif y1 != y5 then some (V.tup [V.bool
 false]) else need (O.R 0 80 [V.agg [V.sl y2 y3, V.int .i64 y4], V.agg [V.sl y6 y7, V.int .i64 y8]]) fun x1 => asTup (some x1) fun x2 => PI.asBool x2[0]? fun x3 => bif !x3 then some (V.tup [V.bool
 false]) else some (V.tup [V.bool true])
theorem e45 (k m q0 q1 : Nat) (y1 : Int) (y2 : Nat) (y3 : List V) (y4 : Int) (y5 : Int) (y6 : Nat) (y7 : List V) (y8 : Int) : runV C (k + 1) 45 [V.agg [V.int .i64 y1, V.sl y2 y3, V.int .i64 y4], V.agg
 [V.int .i64 y5, V.sl y6 y7, V.int .i64 y8]] = T45 (orc C k) k m q0 q1 y1 y2 y3 y4 y5 y6 y7 y8 := by kernel_rfl
theorem E45 (y1 : Int) (y2 : Nat) (y3 : List V) (y4 : Int) (y5 : Int) (y6 : Nat) (y7 : List V) (y8 : Int) {r : V} (h : T45 (orcE C) 0 0 0 0 y1 y2 y3 y4 y5 y6 y7 y8 = some r) : runE C 45 [V.agg [V.int
 .i64 y1, V.sl y2 y3, V.int .i64 y4], V.agg [V.int .i64 y5, V.sl y6 y7, V.int .i64 y8]] = some r := ofR (F := fun s => T45 (orc C s.k) s.k s.m 0 0 y1 y2 y3 y4 y5 y6 y7 y8) (fun k => e45 k k 0 0 y1 y2
 y3 y4 y5 y6 y7 y8) (by
  unfold T45
  repeat' first | with_reducible exact cC | with_reducible refine cN cR fun _ => ?_ | with_reducible refine cT fun _ => ?_ | with_reducible refine cF ?_ ?_ | with_reducible refine cB fun _ => ?_ | with_reducible refine cN cC fun _ => ?_ | with_reducible exact cR) h

noncomputable def T80 (O : Orc) (k m q0 q1 : Nat) (y1 : Nat) (y2 : List V) (y3 : Int) (y4 : Nat) (y5 : List V) (y6 : Int) : Option V := need (O.R 0 162 [V.sl y1 y2, V.sl y4 y5]) fun x1 => asTup (some
 x1) fun x2 => PI.asBool x2[0]? fun x3 => bif !x3 then some (V.tup [V.bool false]) else bif y3 != y6 then some (V.tup [V.bool false]) else some (V.tup [V.bool true])
theorem e80 (k m q0 q1 : Nat) (y1 : Nat) (y2 : List V) (y3 : Int) (y4 : Nat) (y5 : List V) (y6 : Int) : runV C (k + 1) 80 [V.agg [V.sl y1 y2, V.int .i64 y3], V.agg [V.sl y4 y5, V.int .i64 y6]] = T80
 (orc C k) k m q0 q1 y1 y2 y3 y4 y5 y6 := by kernel_rfl
theorem E80 (y1 : Nat) (y2 : List V) (y3 : Int) (y4 : Nat) (y5 : List V) (y6 : Int) {r : V} (h : T80 (orcE C) 0 0 0 0 y1 y2 y3 y4 y5 y6 = some r) : runE C 80 [V.agg [V.sl y1 y2, V.int .i64 y3], V.agg
 [V.sl y4 y5, V.int .i64 y6]] = some r := ofR (F := fun s => T80 (orc C s.k) s.k s.m 0 0 y1 y2 y3 y4 y5 y6) (fun k => e80 k k 0 0 y1 y2 y3 y4 y5 y6) (by
  unfold T80
  repeat' first | with_reducible exact cC | with_reducible refine cN cR fun _ => ?_ | with_reducible refine cT fun _ => ?_ | with_reducible refine cF ?_ ?_ | with_reducible refine cB fun _ => ?_ | with_reducible refine cN cC fun _ => ?_ | with_reducible exact cR) h

noncomputable def T46 (O : Orc) (k m q0 q1 : Nat) (y1 : Nat) (y2 : List V) (y3 : Int) (y4 : Int) (y5 : Int) (y6 : Nat) (y7 : List V) (y8 : Int) (y9 : Nat) (y10 : List V) (y11 : Int) (y12 : Int) (y13 :
 Int) (y14 : Nat) (y15 : List V) (y16 : Int) : Option V := need (O.R 0 123 [V.sl y1 y2, V.sl y9 y10]) fun x1 => asTup (some x1) fun x2 => PI.asBool x2[0]? fun x3 => bif !x3 then some (V.tup [V.bool
 false]) else bif y3 != y11 then some (V.tup [V.bool false]) else bif y4 != y12 then some (V.tup [V.bool false]) else bif y5 != y13 then some (V.tup [V.bool false]) else need (O.R 0 123 [V.sl y6 y7,
 V.sl y14 y15]) fun x4 => asTup (some x4) fun x5 => PI.asBool x5[0]? fun x6 => bif !x6 then some (V.tup [V.bool false]) else bif y8 != y16 then some (V.tup [V.bool false]) else some (V.tup [V.bool
 true])
theorem e46 (k m q0 q1 : Nat) (y1 : Nat) (y2 : List V) (y3 : Int) (y4 : Int) (y5 : Int) (y6 : Nat) (y7 : List V) (y8 : Int) (y9 : Nat) (y10 : List V) (y11 : Int) (y12 : Int) (y13 : Int) (y14 : Nat)
 (y15 : List V) (y16 : Int) : runV C (k + 1) 46 [V.agg [V.sl y1 y2, V.int .i64 y3, V.int .i64 y4, V.int .i64 y5, V.sl y6 y7, V.int .i64 y8], V.agg [V.sl y9 y10, V.int .i64 y11, V.int .i64 y12, V.int
 .i64 y13, V.sl y14 y15, V.int .i64 y16]] = T46 (orc C k) k m q0 q1 y1 y2 y3 y4 y5 y6 y7 y8 y9 y10 y11 y12 y13 y14 y15 y16 := by kernel_rfl
theorem E46 (y1 : Nat) (y2 : List V) (y3 : Int) (y4 : Int) (y5 : Int) (y6 : Nat) (y7 : List V) (y8 : Int) (y9 : Nat) (y10 : List V) (y11 : Int) (y12 : Int) (y13 : Int) (y14 : Nat) (y15 : List V) (y16 :
 Int) {r : V} (h : T46 (orcE C) 0 0 0 0 y1 y2 y3 y4 y5 y6 y7 y8 y9 y10 y11 y12 y13 y14 y15 y16 = some r) : runE C 46 [V.agg [V.sl y1 y2, V.int .i64 y3, V.int .i64 y4, V.int .i64 y5, V.sl y6 y7, V.int
 .i64 y8], V.agg [V.sl y9 y10, V.int .i64 y11, V.int .i64 y12, V.int .i64 y13, V.sl y14 y15, V.int .i64 y16]] = some r := ofR (F := fun s => T46 (orc C s.k) s.k s.m 0 0 y1 y2 y3 y4 y5 y6 y7 y8 y9 y10
 y11 y12 y13 y14 y15 y16) (fun k => e46 k k 0 0 y1 y2 y3 y4 y5 y6 y7 y8 y9 y10 y11 y12 y13 y14 y15 y16) (by
  unfold T46
  repeat' first | with_reducible exact cC | with_reducible refine cN cR fun _ => ?_ | with_reducible refine cT fun _ => ?_ | with_reducible refine cF ?_ ?_ | with_reducible refine cB fun _ => ?_ | with_reducible refine cN cC fun _ => ?_ | with_reducible exact cR) h

noncomputable def T81 (O : Orc) (k m q0 q1 : Nat) (y1 : Int) (y2 : Int) (y3 : Nat) (y4 : List V) : Option V := need (O.W 0 163 [0] [V.ref 0, V.int .i64 y2] [Ob.nrow [] 42 y3 y4]) fun x1 => asTup (some
 x1) fun x2 => PI.asInt .i64 x2[0]? fun x3 => asOsl x2[1]? fun x4 x5 => some (V.tup [V.int .i64 x3, V.osl x4 x5])
theorem e81 (k m q0 q1 : Nat) (y1 : Int) (y2 : Int) (y3 : Nat) (y4 : List V) : runW C (k + 1) 81 [0] [V.agg [V.ref 0, V.int .i64 y1], V.int .i64 y2] [Ob.nrow [] 42 y3 y4] = T81 (orc C k) k m q0 q1 y1
 y2 y3 y4 := by kernel_rfl
theorem E81 (y1 : Int) (y2 : Int) (y3 : Nat) (y4 : List V) {r : V} (h : T81 (orcE C) 0 0 0 0 y1 y2 y3 y4 = some r) : runWE C 81 [0] [V.agg [V.ref 0, V.int .i64 y1], V.int .i64 y2] [Ob.nrow [] 42 y3 y4]
 = some r := ofW (F := fun s => T81 (orc C s.k) s.k s.m 0 0 y1 y2 y3 y4) (fun k => e81 k k 0 0 y1 y2 y3 y4) (by
  unfold T81
  repeat' first | with_reducible exact cC | with_reducible refine cN cQ fun _ => ?_ | with_reducible refine cT fun _ => ?_ | with_reducible refine cI fun _ => ?_ | with_reducible refine cO fun _ _ => ?_ | with_reducible refine cN cC fun _ => ?_ | with_reducible exact cQ) h

noncomputable def T47 (O : Orc) (k m q0 q1 : Nat) (y1 : Int) (y2 : Int) (y3 : Int) (y4 : Int) (y5 : Int) (y6 : Nat) (y7 : List V) (y8 : Nat) (y9 : List V) : Option V := need (O.W 0 125 [0] [V.ref 0,
 V.int .i64 y5] [Ob.row 5 y6 y7 false]) fun x1 => asTup (some x1) fun x2 => PI.asInt .i64 x2[0]? fun x3 => asOsl x2[1]? fun x4 x5 => need (O.W 0 125 [0] [V.ref 0, V.int .i64 x3] [Ob.row 5 y8 y9 false])
 fun x6 => asTup (some x6) fun x7 => PI.asInt .i64 x7[0]? fun x8 => asOsl x7[1]? fun x9 x10 => must (false || x5.all flatV) (must (false || x10.all flatV) (some (V.tup [V.int .i64 x8, V.osl x4 x5,
 V.osl x9 x10])))
theorem e47 (k m q0 q1 : Nat) (y1 : Int) (y2 : Int) (y3 : Int) (y4 : Int) (y5 : Int) (y6 : Nat) (y7 : List V) (y8 : Nat) (y9 : List V) : runW C (k + 1) 47 [0, 1] [V.agg [V.ref 0, V.int .i64 y1, V.int
 .i64 y2, V.int .i64 y3, V.ref 1, V.int .i64 y4], V.int .i64 y5] [Ob.row 5 y6 y7 false, Ob.row 5 y8 y9 false] = T47 (orc C k) k m q0 q1 y1 y2 y3 y4 y5 y6 y7 y8 y9 := by kernel_rfl
theorem E47 (y1 : Int) (y2 : Int) (y3 : Int) (y4 : Int) (y5 : Int) (y6 : Nat) (y7 : List V) (y8 : Nat) (y9 : List V) {r : V} (h : T47 (orcE C) 0 0 0 0 y1 y2 y3 y4 y5 y6 y7 y8 y9 = some r) : runWE C 47
 [0, 1] [V.agg [V.ref 0, V.int .i64 y1, V.int .i64 y2, V.int .i64 y3, V.ref 1, V.int .i64 y4], V.int .i64 y5] [Ob.row 5 y6 y7 false, Ob.row 5 y8 y9 false] = some r := ofW (F := fun s => T47 (orc C s.k)
 s.k s.m 0 0 y1 y2 y3 y4 y5 y6 y7 y8 y9) (fun k => e47 k k 0 0 y1 y2 y3 y4 y5 y6 y7 y8 y9) (by
  unfold T47
  repeat' first | with_reducible exact cC | with_reducible refine cN cQ fun _ => ?_ | with_reducible refine cT fun _ => ?_ | with_reducible refine cI fun _ => ?_ | with_reducible refine cM ?_ | with_reducible refine cO fun _ _ => ?_ | with_reducible refine cN cC fun _ => ?_ | with_reducible exact cQ) h

noncomputable def T48 (O : Orc) (k m q0 q1 : Nat) (y1 : Int) (y2 : Int) (y3 : Int) (y4 : Nat) (y5 : List V) : Option V := need (O.W 0 81 [0] [V.agg [V.ref 0, V.int .i64 y2], V.int .i64 y3] [Ob.nrow []
 42 y4 y5]) fun x1 => asTup (some x1) fun x2 => PI.asInt .i64 x2[0]? fun x3 => asOsl x2[1]? fun x4 x5 => some (V.tup [V.int .i64 x3, V.osl x4 x5])
theorem e48 (k m q0 q1 : Nat) (y1 : Int) (y2 : Int) (y3 : Int) (y4 : Nat) (y5 : List V) : runW C (k + 1) 48 [0] [V.agg [V.int .i64 y1, V.ref 0, V.int .i64 y2], V.int .i64 y3] [Ob.nrow [] 42 y4 y5] =
 T48 (orc C k) k m q0 q1 y1 y2 y3 y4 y5 := by kernel_rfl
theorem E48 (y1 : Int) (y2 : Int) (y3 : Int) (y4 : Nat) (y5 : List V) {r : V} (h : T48 (orcE C) 0 0 0 0 y1 y2 y3 y4 y5 = some r) : runWE C 48 [0] [V.agg [V.int .i64 y1, V.ref 0, V.int .i64 y2], V.int
 .i64 y3] [Ob.nrow [] 42 y4 y5] = some r := ofW (F := fun s => T48 (orc C s.k) s.k s.m 0 0 y1 y2 y3 y4 y5) (fun k => e48 k k 0 0 y1 y2 y3 y4 y5) (by
  unfold T48
  repeat' first | with_reducible exact cC | with_reducible refine cN cQ fun _ => ?_ | with_reducible refine cT fun _ => ?_ | with_reducible refine cI fun _ => ?_ | with_reducible refine cO fun _ _ => ?_ | with_reducible refine cN cC fun _ => ?_ | with_reducible exact cQ) h

noncomputable def T49 (O : Orc) (k m q0 q1 : Nat) (y1 : Int) (y2 : Nat) (y3 : List V) (y4 : Int) (y5 : Int) : Option V := need (O.R 0 130 [V.agg [V.sl y2 y3, V.int .i64 y4], V.int .i64 y5]) fun x1 =>
 asTup (some x1) fun x2 => PI.asInt .i64 x2[0]? fun x3 => bif decide (x3 < 0) then some (V.tup [V.int .i64 (-1)]) else some (V.tup [V.int .i64 x3])
theorem e49 (k m q0 q1 : Nat) (y1 : Int) (y2 : Nat) (y3 : List V) (y4 : Int) (y5 : Int) : runV C (k + 1) 49 [V.agg [V.int .i64 y1, V.sl y2 y3, V.int .i64 y4], V.int .i64 y5] = T49 (orc C k) k m q0 q1
 y1 y2 y3 y4 y5 := by kernel_rfl
theorem E49 (y1 : Int) (y2 : Nat) (y3 : List V) (y4 : Int) (y5 : Int) {r : V} (h : T49 (orcE C) 0 0 0 0 y1 y2 y3 y4 y5 = some r) : runE C 49 [V.agg [V.int .i64 y1, V.sl y2 y3, V.int .i64 y4], V.int
 .i64 y5] = some r := ofR (F := fun s => T49 (orc C s.k) s.k s.m 0 0 y1 y2 y3 y4 y5) (fun k => e49 k k 0 0 y1 y2 y3 y4 y5) (by
  unfold T49
  repeat' first | with_reducible exact cC | with_reducible refine cN cR fun _ => ?_ | with_reducible refine cT fun _ => ?_ | with_reducible refine cI fun _ => ?_ | with_reducible refine cF ?_ ?_ | with_reducible refine cN cC fun _ => ?_ | with_reducible exact cR) h

noncomputable def T156 (O : Orc) (k m q0 q1 : Nat) (y1 : Nat) (y2 : List V) (y3 : Int) : Option V := bif decide (IntKind.i64.wrap (y3 - (↑y1 : Int)) < 0) then some (V.tup [V.int .i64 (-1)]) else O.L 0
 156 0 [true, true, true, false, true] [] k [(0, V.sl y1 y2), (1, V.int .i64 (IntKind.i64.wrap (y3 - (↑y1 : Int)))), (5, V.int .i64 0)] []
theorem e156 (k m q0 q1 : Nat) (y1 : Nat) (y2 : List V) (y3 : Int) : runV C (k + 1) 156 [V.sl y1 y2, V.int .i64 y3] = T156 (orc C k) k m q0 q1 y1 y2 y3 := by kernel_rfl
theorem E156 (y1 : Nat) (y2 : List V) (y3 : Int) {r : V} (h : T156 (orcE C) 0 0 0 0 y1 y2 y3 = some r) : runE C 156 [V.sl y1 y2, V.int .i64 y3] = some r := ofR (F := fun s => T156 (orc C s.k) s.k s.m 0
 0 y1 y2 y3) (fun k => e156 k k 0 0 y1 y2 y3) (by
  unfold T156
  repeat' first | with_reducible exact cC | with_reducible refine cF ?_ ?_ | exact cD0 gK) h

noncomputable def T115 (O : Orc) (k m q0 q1 : Nat) (y1 : Nat) (y2 : List V) (y3 : Int) : Option V := bif decide (IntKind.i64.wrap (y3 - (↑y1 : Int)) < 0) then some (V.tup [V.int .i64 (-1)]) else some
 (V.tup [V.int .i64 (IntKind.i64.wrap (y3 - (↑y1 : Int)))])
theorem e115 (k m q0 q1 : Nat) (y1 : Nat) (y2 : List V) (y3 : Int) : runV C (k + 1) 115 [V.sl y1 y2, V.int .i64 y3] = T115 (orc C k) k m q0 q1 y1 y2 y3 := by kernel_rfl
theorem E115 (y1 : Nat) (y2 : List V) (y3 : Int) {r : V} (h : T115 (orcE C) 0 0 0 0 y1 y2 y3 = some r) : runE C 115 [V.sl y1 y2, V.int .i64 y3] = some r := ofR (F := fun s => T115 (orc C s.k) s.k s.m 0
 0 y1 y2 y3) (fun k => e115 k k 0 0 y1 y2 y3) (by
  unfold T115
  repeat' first | with_reducible exact cC | with_reducible refine cF ?_ ?_) h

noncomputable def T159 (O : Orc) (k m q0 q1 : Nat) (y1 : Nat) (y2 : List V) : Option V := must (decide ((↑y1 : Int) = (↑y1 : Int)) && decide (0 ≤ (↑y1 : Int)) && decide ((↑y1 : Int) ≤ 140737488355328)
 && decide ((↑y1 : Int) * 80 ≤ 140737488355328)) (O.L 0 159 0 [true, true, false, true] [] k [(0, V.sl y1 y2), (3, V.ref 0), (4, V.int .i64 0)] [Ob.nrow [] 42 (↑y1 : Int).toNat (reps (↑y1 : Int).toNat
 [V.nilsl, V.int .i64 0, V.int .i64 0, V.int .i64 0, V.nilsl, V.int .i64 0])])
theorem e159 (k m q0 q1 : Nat) (y1 : Nat) (y2 : List V) : runV C (k + 1) 159 [V.sl y1 y2] = T159 (orc C k) k m q0 q1 y1 y2 := by kernel_rfl
theorem E159 (y1 : Nat) (y2 : List V) {r : V} (h : T159 (orcE C) 0 0 0 0 y1 y2 = some r) : runE C 159 [V.sl y1 y2] = some r := ofR (F := fun s => T159 (orc C s.k) s.k s.m 0 0 y1 y2) (fun k => e159 k k
 0 0 y1 y2) (by
  unfold T159
  repeat' first | with_reducible exact cC | with_reducible refine cM ?_ | exact cD0 gK) h

noncomputable def T119 (O : Orc) (k m q0 q1 : Nat) (y1 : Nat) (y2 : List V) : Option V := must (decide ((↑y1 : Int) = (↑y1 : Int)) && decide (0 ≤ (↑y1 : Int)) && decide ((↑y1 : Int) ≤ 140737488355328)
 && decide ((↑y1 : Int) * 1 ≤ 140737488355328)) (O.L 0 119 0 [true, true, false, true] [] k [(0, V.sl y1 y2), (3, V.ref 0), (4, V.int .i64 0)] [Ob.row 5 (↑y1 : Int).toNat (reps (↑y1 : Int).toNat [V.int
 .u8 0]) false])
theorem e119 (k m q0 q1 : Nat) (y1 : Nat) (y2 : List V) : runV C (k + 1) 119 [V.sl y1 y2] = T119 (orc C k) k m q0 q1 y1 y2 := by kernel_rfl
theorem E119 (y1 : Nat) (y2 : List V) {r : V} (h : T119 (orcE C) 0 0 0 0 y1 y2 = some r) : runE C 119 [V.sl y1 y2] = some r := ofR (F := fun s => T119 (orc C s.k) s.k s.m 0 0 y1 y2) (fun k => e119 k k
 0 0 y1 y2) (by
  unfold T119
  repeat' first | with_reducible exact cC | with_reducible refine cM ?_ | exact cD0 gK) h

noncomputable def T127 (O : Orc) (k m q0 q1 : Nat) (y1 : Nat) (y2 : List V) (y3 : Int) : Option V := need (O.R 0 103 [V.int .i64 y3, V.int .i64 1, V.int .i64 6]) fun x1 => asTup (some x1) fun x2 =>
 PI.asBool x2[0]? fun x3 => bif !x3 then some (V.tup [V.int .i64 3]) else bif (↑y1 : Int) == 0 then some (V.tup [V.int .i64 4]) else bif decide ((↑y1 : Int) > 24) then some (V.tup [V.int .i64 2]) else
 need (O.R 0 202 [V.sl y1 y2]) fun x4 => asTup (some x4) fun x5 => asOsl x5[0]? fun x6 x7 => O.L 0 127 0 [true, true, true, true, true, false, true] [] k [(1, V.ptr 0 0), (3, V.ref 1), (4, V.int .i64
 0)] [Ob.box 81 [V.sl y1 y2, V.int .i64 y3] false, Ob.nrow [] 22 x6 x7]
theorem e127 (k m q0 q1 : Nat) (y1 : Nat) (y2 : List V) (y3 : Int) : runV C (k + 1) 127 [V.agg [V.sl y1 y2, V.int .i64 y3]] = T127 (orc C k) k m q0 q1 y1 y2 y3 := by kernel_rfl
theorem E127 (y1 : Nat) (y2 : List V) (y3 : Int) {r : V} (h : T127 (orcE C) 0 0 0 0 y1 y2 y3 = some r) : runE C 127 [V.agg [V.sl y1 y2, V.int .i64 y3]] = some r := ofR (F := fun s => T127 (orc C s.k)
 s.k s.m 0 0 y1 y2 y3) (fun k => e127 k k 0 0 y1 y2 y3) (by
  unfold T127
  repeat' first | with_reducible exact cC | with_reducible refine cN cR fun _ => ?_ | with_reducible refine cT fun _ => ?_ | with_reducible refine cF ?_ ?_ | with_reducible refine cB fun _ => ?_ | with_reducible refine cO fun _ _ => ?_ | with_reducible refine cN cC fun _ => ?_ | with_reducible exact cR | exact cD0 gK) h

noncomputable def T157 (O : Orc) (k m q0 q1 : Nat) (y1 : Nat) (y2 : List V) (y3 : Int) : Option V := O.L 0 157 0 [true, true, false, true] [] k [(1, V.ptr 0 0), (2, V.ptr 1 0), (3, V.ptr 3 0), (4,
 V.int .i64 0)] [Ob.box 81 [V.sl y1 y2, V.int .i64 y3] false, Ob.box 81 [V.ref 2, V.int .i64 0] false, Ob.nrow [] 42 0 [], Ob.box 81 [V.ref 4, V.int .i64 y3] false, Ob.nrow [] 42 0 []]
theorem e157 (k m q0 q1 : Nat) (y1 : Nat) (y2 : List V) (y3 : Int) : runV C (k + 1) 157 [V.agg [V.sl y1 y2, V.int .i64 y3]] = T157 (orc C k) k m q0 q1 y1 y2 y3 := by kernel_rfl
theorem E157 (y1 : Nat) (y2 : List V) (y3 : Int) {r : V} (h : T157 (orcE C) 0 0 0 0 y1 y2 y3 = some r) : runE C 157 [V.agg [V.sl y1 y2, V.int .i64 y3]] = some r := ofR (F := fun s => T157 (orc C s.k)
 s.k s.m 0 0 y1 y2 y3) (fun k => e157 k k 0 0 y1 y2 y3) (by
  unfold T157
  repeat' first | with_reducible exact cC | exact cD0 gK) h

noncomputable def T158 (O : Orc) (k m q0 q1 : Nat) (y1 : Nat) (y2 : List V) (y3 : Int) (y4 : Int) (y5 : Int) (y6 : Nat) (y7 : List V) (y8 : Int) (y9 : Int) (y10 : Nat) (y11 : List V) : Option V := need
 (O.R 0 203 [V.agg [V.sl y1 y2, V.int .i64 y3, V.int .i64 y4, V.int .i64 y5, V.sl y6 y7, V.int .i64 y8]]) fun x1 => asTup (some x1) fun x2 => PI.asInt .i64 x2[0]? fun x3 => bif x3 != 0 then some (V.tup
 [V.int .i64 x3, V.osl y10 y11, V.int .i64 y9]) else need (O.R 0 202 [V.sl y10 (bareL y11)]) fun x4 => asTup (some x4) fun x5 => asOsl x5[0]? fun x6 x7 => need (O.R 0 205 [V.sl y10 (bareL y11), V.sl x6
 (bareL x7), V.agg [V.sl y1 y2, V.int .i64 y3, V.int .i64 y4, V.int .i64 y5, V.sl y6 y7, V.int .i64 y8]]) fun x8 => asTup (some x8) fun x9 => PI.asInt .i64 x9[0]? fun x10 => bif x10 != 0 then some
 (V.tup [V.int .i64 x10, V.osl y10 y11, V.int .i64 y9]) else bif decide ((↑y10 : Int) ≥ 24) then some (V.tup [V.int .i64 8, V.osl y10 y11, V.int .i64 y9]) else need (O.R 0 113 [V.agg [V.sl y1 y2, V.int
 .i64 y3, V.int .i64 y4, V.int .i64 y5, V.sl y6 y7, V.int .i64 y8]]) fun x11 => asTup (some x11) fun x12 => asOsl x12[0]? fun x13 x14 => PI.asInt .i64 x12[1]? fun x15 => PI.asInt .i64 x12[2]? fun x16
 => PI.asInt .i64 x12[3]? fun x17 => asOsl x12[4]? fun x18 x19 => PI.asInt .i64 x12[5]? fun x20 => must (x14.all flatV) (must (x19.all flatV) (must (true && (y10 + 1).ble 140737488355328 && ((y10 + 1)
 * 80).ble 140737488355328) (some (V.tup [V.int .i64 0, V.osl (y10 + 1) (y11 ++ [V.own false 5 1 x13 x14, V.int .i64 x15, V.int .i64 x16, V.int .i64 x17, V.own false 5 1 x18 x19, V.int .i64 x20]),
 V.int .i64 y9]))))
theorem e158 (k m q0 q1 : Nat) (y1 : Nat) (y2 : List V) (y3 : Int) (y4 : Int) (y5 : Int) (y6 : Nat) (y7 : List V) (y8 : Int) (y9 : Int) (y10 : Nat) (y11 : List V) : runW C (k + 1) 158 [] [V.ptr 0 0,
 V.agg [V.sl y1 y2, V.int .i64 y3, V.int .i64 y4, V.int .i64 y5, V.sl y6 y7, V.int .i64 y8]] [Ob.box 81 [V.ref 1, V.int .i64 y9] false, Ob.nrow [] 42 y10 y11] = T158 (orc C k) k m q0 q1 y1 y2 y3 y4 y5
 y6 y7 y8 y9 y10 y11 := by kernel_rfl
theorem E158 (y1 : Nat) (y2 : List V) (y3 : Int) (y4 : Int) (y5 : Int) (y6 : Nat) (y7 : List V) (y8 : Int) (y9 : Int) (y10 : Nat) (y11 : List V) {r : V} (h : T158 (orcE C) 0 0 0 0 y1 y2 y3 y4 y5 y6 y7
 y8 y9 y10 y11 = some r) : runWE C 158 [] [V.ptr 0 0, V.agg [V.sl y1 y2, V.int .i64 y3, V.int .i64 y4, V.int .i64 y5, V.sl y6 y7, V.int .i64 y8]] [Ob.box 81 [V.ref 1, V.int .i64 y9] false, Ob.nrow []
 42 y10 y11] = some r := ofW (F := fun s => T158 (orc C s.k) s.k s.m 0 0 y1 y2 y3 y4 y5 y6 y7 y8 y9 y10 y11) (fun k => e158 k k 0 0 y1 y2 y3 y4 y5 y6 y7 y8 y9 y10 y11) (by
  unfold T158
  repeat' first | with_reducible exact cC | with_reducible refine cN cR fun _ => ?_ | with_reducible refine cT fun _ => ?_ | with_reducible refine cI fun _ => ?_ | with_reducible refine cM ?_ | with_reducible refine cF ?_ ?_ | with_reducible refine cO fun _ _ => ?_ | with_reducible refine cN cC fun _ => ?_ | with_reducible exact cR) h

noncomputable def T129 (O : Orc) (k m q0 q1 : Nat) (y1 : Nat) (y2 : List V) (y3 : Int) : Option V := need (O.R 0 92 [V.int .i64 y3, V.int .i64 1, V.int .i64 6]) fun x1 => asTup (some x1) fun x2 =>
 PI.asBool x2[0]? fun x3 => bif !x3 then some (V.tup [V.int .i64 3]) else bif (↑y1 : Int) == 0 then some (V.tup [V.int .i64 4]) else bif decide ((↑y1 : Int) > 24) then some (V.tup [V.int .i64 2]) else
 O.L 0 129 1 [true, true, false, true] [] k [(1, V.ptr 0 0), (23, V.sl y1 y2), (24, V.int .i64 (↑y1 : Int)), (25, V.int .i64 0)] [Ob.box 81 [V.sl y1 y2, V.int .i64 y3] false]
theorem e129 (k m q0 q1 : Nat) (y1 : Nat) (y2 : List V) (y3 : Int) : runV C (k + 1) 129 [V.agg [V.sl y1 y2, V.int .i64 y3]] = T129 (orc C k) k m q0 q1 y1 y2 y3 := by kernel_rfl
theorem E129 (y1 : Nat) (y2 : List V) (y3 : Int) {r : V} (h : T129 (orcE C) 0 0 0 0 y1 y2 y3 = some r) : runE C 129 [V.agg [V.sl y1 y2, V.int .i64 y3]] = some r := ofR (F := fun s => T129 (orc C s.k)
 s.k s.m 0 0 y1 y2 y3) (fun k => e129 k k 0 0 y1 y2 y3) (by
  unfold T129
  repeat' first | with_reducible exact cC | with_reducible refine cN cR fun _ => ?_ | with_reducible refine cT fun _ => ?_ | with_reducible refine cF ?_ ?_ | with_reducible refine cB fun _ => ?_ | with_reducible refine cN cC fun _ => ?_ | with_reducible exact cR | exact cD0 gK) h

noncomputable def T160 (O : Orc) (k m q0 q1 : Nat) (y1 : Nat) (y2 : List V) (y3 : Int) (y4 : Nat) (y5 : List V) (y6 : Int) (y7 : Int) (y8 : Int) (y9 : Nat) (y10 : List V) (y11 : Int) : Option V := need
 (O.R 0 206 [V.agg [V.sl y4 y5, V.int .i64 y6, V.int .i64 y7, V.int .i64 y8, V.sl y9 y10, V.int .i64 y11]]) fun x1 => asTup (some x1) fun x2 => PI.asInt .i64 x2[0]? fun x3 => bif x3 != 0 then some
 (V.tup [V.int .i64 x3]) else need (O.R 0 208 [V.sl y1 y2, V.agg [V.sl y4 y5, V.int .i64 y6, V.int .i64 y7, V.int .i64 y8, V.sl y9 y10, V.int .i64 y11]]) fun x4 => asTup (some x4) fun x5 => PI.asInt
 .i64 x5[0]? fun x6 => bif x6 != 0 then some (V.tup [V.int .i64 x6]) else bif (↑y1 : Int) == 24 then some (V.tup [V.int .i64 8]) else some (V.tup [V.int .i64 0])
theorem e160 (k m q0 q1 : Nat) (y1 : Nat) (y2 : List V) (y3 : Int) (y4 : Nat) (y5 : List V) (y6 : Int) (y7 : Int) (y8 : Int) (y9 : Nat) (y10 : List V) (y11 : Int) : runV C (k + 1) 160 [V.agg [V.sl y1
 y2, V.int .i64 y3], V.agg [V.sl y4 y5, V.int .i64 y6, V.int .i64 y7, V.int .i64 y8, V.sl y9 y10, V.int .i64 y11]] = T160 (orc C k) k m q0 q1 y1 y2 y3 y4 y5 y6 y7 y8 y9 y10 y11 := by kernel_rfl
theorem E160 (y1 : Nat) (y2 : List V) (y3 : Int) (y4 : Nat) (y5 : List V) (y6 : Int) (y7 : Int) (y8 : Int) (y9 : Nat) (y10 : List V) (y11 : Int) {r : V} (h : T160 (orcE C) 0 0 0 0 y1 y2 y3 y4 y5 y6 y7
 y8 y9 y10 y11 = some r) : runE C 160 [V.agg [V.sl y1 y2, V.int .i64 y3], V.agg [V.sl y4 y5, V.int .i64 y6, V.int .i64 y7, V.int .i64 y8, V.sl y9 y10, V.int .i64 y11]] = some r := ofR (F := fun s =>
 T160 (orc C s.k) s.k s.m 0 0 y1 y2 y3 y4 y5 y6 y7 y8 y9 y10 y11) (fun k => e160 k k 0 0 y1 y2 y3 y4 y5 y6 y7 y8 y9 y10 y11) (by
  unfold T160
  repeat' first | with_reducible exact cC | with_reducible refine cN cR fun _ => ?_ | with_reducible refine cT fun _ => ?_ | with_reducible refine cI fun _ => ?_ | with_reducible refine cF ?_ ?_ | with_reducible refine cN cC fun _ => ?_ | with_reducible exact cR) h

noncomputable def T161 (O : Orc) (k m q0 q1 : Nat) (y1 : Nat) (y2 : List V) : Option V := bif y1.beq (OfNat.ofNat 0) then both (some (V.tup [V.osl 0 []])) (must (decide (y2.length = y1 * 6)) (must
 (true && (0 + y1).ble 140737488355328 && ((0 + y1) * 80).ble 140737488355328) (some (V.tup [V.osl (0 + y1) y2])))) else must (decide (y2.length = y1 * 6)) (must (true && (0 + y1).ble 140737488355328
 && ((0 + y1) * 80).ble 140737488355328) (some (V.tup [V.osl (0 + y1) y2])))
theorem e161 (k m q0 q1 : Nat) (y1 : Nat) (y2 : List V) : runV C (k + 1) 161 [V.sl y1 y2] = T161 (orc C k) k m q0 q1 y1 y2 := by kernel_rfl
theorem E161 (y1 : Nat) (y2 : List V) {r : V} (h : T161 (orcE C) 0 0 0 0 y1 y2 = some r) : runE C 161 [V.sl y1 y2] = some r := ofR (F := fun s => T161 (orc C s.k) s.k s.m 0 0 y1 y2) (fun k => e161 k k
 0 0 y1 y2) (by
  unfold T161
  repeat' first | with_reducible exact cC | with_reducible refine cM ?_ | with_reducible refine cF ?_ ?_ | with_reducible refine cW ?_ ?_) h

noncomputable def T128 (O : Orc) (k m q0 q1 : Nat) (y1 : Nat) (y2 : List V) (y3 : Int) : Option V := O.L 0 128 0 [true, true, false, true] [] k [(4, V.ptr 0 0), (5, V.ptr 2 0), (10, V.sl y1 y2), (11,
 V.int .i64 (↑y1 : Int)), (12, V.int .i64 0)] [Ob.box 81 [V.ref 1, V.int .i64 0] false, Ob.nrow [] 42 0 [], Ob.box 81 [V.ref 3, V.int .i64 y3] false, Ob.nrow [] 42 0 []]
theorem e128 (k m q0 q1 : Nat) (y1 : Nat) (y2 : List V) (y3 : Int) : runV C (k + 1) 128 [V.sl y1 y2, V.int .i64 y3] = T128 (orc C k) k m q0 q1 y1 y2 y3 := by kernel_rfl
theorem E128 (y1 : Nat) (y2 : List V) (y3 : Int) {r : V} (h : T128 (orcE C) 0 0 0 0 y1 y2 y3 = some r) : runE C 128 [V.sl y1 y2, V.int .i64 y3] = some r := ofR (F := fun s => T128 (orc C s.k) s.k s.m 0
 0 y1 y2 y3) (fun k => e128 k k 0 0 y1 y2 y3) (by
  unfold T128
  repeat' first | with_reducible exact cC | exact cD0 gK) h

noncomputable def T162 (O : Orc) (k m q0 q1 : Nat) (y1 : Nat) (y2 : List V) (y3 : Nat) (y4 : List V) : Option V := bif (↑y1 : Int) != (↑y3 : Int) then some (V.tup [V.bool false]) else O.L 0 162 0
 [true, true, false, true] [] k [(0, V.sl y1 y2), (1, V.sl y3 y4), (5, V.int .i64 0)] []
theorem e162 (k m q0 q1 : Nat) (y1 : Nat) (y2 : List V) (y3 : Nat) (y4 : List V) : runV C (k + 1) 162 [V.sl y1 y2, V.sl y3 y4] = T162 (orc C k) k m q0 q1 y1 y2 y3 y4 := by kernel_rfl
theorem E162 (y1 : Nat) (y2 : List V) (y3 : Nat) (y4 : List V) {r : V} (h : T162 (orcE C) 0 0 0 0 y1 y2 y3 y4 = some r) : runE C 162 [V.sl y1 y2, V.sl y3 y4] = some r := ofR (F := fun s => T162 (orc C
 s.k) s.k s.m 0 0 y1 y2 y3 y4) (fun k => e162 k k 0 0 y1 y2 y3 y4) (by
  unfold T162
  repeat' first | with_reducible exact cC | with_reducible refine cF ?_ ?_ | exact cD0 gK) h

noncomputable def T123 (O : Orc) (k m q0 q1 : Nat) (y1 : Nat) (y2 : List V) (y3 : Nat) (y4 : List V) : Option V := bif (↑y1 : Int) != (↑y3 : Int) then some (V.tup [V.bool false]) else O.L 0 123 0
 [true, true, false, true] [] k [(0, V.sl y1 y2), (1, V.sl y3 y4), (5, V.int .i64 0)] []
theorem e123 (k m q0 q1 : Nat) (y1 : Nat) (y2 : List V) (y3 : Nat) (y4 : List V) : runV C (k + 1) 123 [V.sl y1 y2, V.sl y3 y4] = T123 (orc C k) k m q0 q1 y1 y2 y3 y4 := by kernel_rfl
theorem E123 (y1 : Nat) (y2 : List V) (y3 : Nat) (y4 : List V) {r : V} (h : T123 (orcE C) 0 0 0 0 y1 y2 y3 y4 = some r) : runE C 123 [V.sl y1 y2, V.sl y3 y4] = some r := ofR (F := fun s => T123 (orc C
 s.k) s.k s.m 0 0 y1 y2 y3 y4) (fun k => e123 k k 0 0 y1 y2 y3 y4) (by
  unfold T123
  repeat' first | with_reducible exact cC | with_reducible refine cF ?_ ?_ | exact cD0 gK) h

noncomputable def T163 (O : Orc) (k m q0 q1 : Nat) (y1 : Int) (y2 : Nat) (y3 : List V) : Option V := O.X 0 163 [0] [Ob.nrow [] 42 0 []] 0 [true, false, true] [] k [(0, V.ref 0), (1, V.int .i64 y1), (5,
 V.int .i64 0)] [Ob.nrow [] 42 y2 y3]
theorem e163 (k m q0 q1 : Nat) (y1 : Int) (y2 : Nat) (y3 : List V) : runW C (k + 1) 163 [0] [V.ref 0, V.int .i64 y1] [Ob.nrow [] 42 y2 y3] = T163 (orc C k) k m q0 q1 y1 y2 y3 := by kernel_rfl
theorem E163 (y1 : Int) (y2 : Nat) (y3 : List V) {r : V} (h : T163 (orcE C) 0 0 0 0 y1 y2 y3 = some r) : runWE C 163 [0] [V.ref 0, V.int .i64 y1] [Ob.nrow [] 42 y2 y3] = some r := ofW (F := fun s =>
 T163 (orc C s.k) s.k s.m 0 0 y1 y2 y3) (fun k => e163 k k 0 0 y1 y2 y3) (by
  unfold T163
  repeat' first | with_reducible exact cC | exact cX0 gK) h

noncomputable def T125 (O : Orc) (k m q0 q1 : Nat) (y1 : Int) (y2 : Nat) (y3 : List V) : Option V := O.X 0 125 [0] [Ob.row 5 0 [] false] 0 [true, false, true] [] k [(0, V.ref 0), (1, V.int .i64 y1),
 (5, V.int .i64 0)] [Ob.row 5 y2 y3 false]
theorem e125 (k m q0 q1 : Nat) (y1 : Int) (y2 : Nat) (y3 : List V) : runW C (k + 1) 125 [0] [V.ref 0, V.int .i64 y1] [Ob.row 5 y2 y3 false] = T125 (orc C k) k m q0 q1 y1 y2 y3 := by kernel_rfl
theorem E125 (y1 : Int) (y2 : Nat) (y3 : List V) {r : V} (h : T125 (orcE C) 0 0 0 0 y1 y2 y3 = some r) : runWE C 125 [0] [V.ref 0, V.int .i64 y1] [Ob.row 5 y2 y3 false] = some r := ofW (F := fun s =>
 T125 (orc C s.k) s.k s.m 0 0 y1 y2 y3) (fun k => e125 k k 0 0 y1 y2 y3) (by
  unfold T125
  repeat' first | with_reducible exact cC | exact cX0 gK) h

noncomputable def T130 (O : Orc) (k m q0 q1 : Nat) (y1 : Nat) (y2 : List V) (y3 : Int) (y4 : Int) : Option V := need (O.R 0 209 [V.sl y1 y2, V.int .i64 y4]) fun x1 => asTup (some x1) fun x2 => PI.asInt
 .i64 x2[0]? fun x3 => bif decide (x3 < 0) then some (V.tup [V.int .i64 (-1)]) else some (V.tup [V.int .i64 x3])
theorem e130 (k m q0 q1 : Nat) (y1 : Nat) (y2 : List V) (y3 : Int) (y4 : Int) : runV C (k + 1) 130 [V.agg [V.sl y1 y2, V.int .i64 y3], V.int .i64 y4] = T130 (orc C k) k m q0 q1 y1 y2 y3 y4 := by
 kernel_rfl
theorem E130 (y1 : Nat) (y2 : List V) (y3 : Int) (y4 : Int) {r : V} (h : T130 (orcE C) 0 0 0 0 y1 y2 y3 y4 = some r) : runE C 130 [V.agg [V.sl y1 y2, V.int .i64 y3], V.int .i64 y4] = some r := ofR (F
 := fun s => T130 (orc C s.k) s.k s.m 0 0 y1 y2 y3 y4) (fun k => e130 k k 0 0 y1 y2 y3 y4) (by
  unfold T130
  repeat' first | with_reducible exact cC | with_reducible refine cN cR fun _ => ?_ | with_reducible refine cT fun _ => ?_ | with_reducible refine cI fun _ => ?_ | with_reducible refine cF ?_ ?_ | with_reducible refine cN cC fun _ => ?_ | with_reducible exact cR) h

noncomputable def T156l1 (O : Orc) (k m q0 q1 : Nat) (y1 : Nat) (y2 : List V) (y3 : Int) (y4 : Int) : Option V := bif decide (y4 < (↑y1 : Int)) then must (inB y4 y1) (asSl y2[y4.toNat * 6]? fun x1 x2
 => PI.asInt .i64 y2[y4.toNat * 6 + 1]? fun x3 => PI.asInt .i64 y2[y4.toNat * 6 + 1 + 1]? fun x4 => PI.asInt .i64 y2[y4.toNat * 6 + 1 + 1 + 1]? fun x5 => asSl y2[y4.toNat * 6 + 1 + 1 + 1 + 1]? fun x6
 x7 => PI.asInt .i64 y2[y4.toNat * 6 + 1 + 1 + 1 + 1 + 1]? fun x8 => need (O.R 0 41 [V.agg [V.sl x1 x2, V.int .i64 x3, V.int .i64 x4, V.int .i64 x5, V.sl x6 x7, V.int .i64 x8], V.int .i64 y3]) fun x9
 => asTup (some x9) fun x10 => PI.asInt .i64 x10[0]? fun x11 => bif decide (x11 < 0) then some (V.tup [V.int .i64 (-1)]) else O.L 0 156 0 [true, true, true, false, true] [] m [(0, V.sl y1 y2), (1,
 V.int .i64 x11), (5, V.int .i64 (IntKind.i64.wrap (y4 + 1)))] []) else some (V.tup [V.int .i64 y3])
theorem e156l1 (k m q0 q1 : Nat) (y1 : Nat) (y2 : List V) (y3 : Int) (y4 : Int) : runL C k 156 0 [true, true, true, false, true] [] (m + 1) [(0, V.sl y1 y2), (1, V.int .i64 y3), (5, V.int .i64 y4)] []
 = T156l1 (orc C k) k m q0 q1 y1 y2 y3 y4 := by kernel_rfl
theorem E156l1 (y1 : Nat) (y2 : List V) (y3 : Int) (y4 : Int) {r : V} (h : T156l1 (orcE C) 0 0 0 0 y1 y2 y3 y4 = some r) : loopE C 156 0 [true, true, true, false, true] [] [(0, V.sl y1 y2), (1, V.int
 .i64 y3), (5, V.int .i64 y4)] [] = some r := ofL (j := 0) (F := fun s => T156l1 (orc C s.k) s.k s.m 0 0 y1 y2 y3 y4) (fs0 fun k m => e156l1 k m 0 0 y1 y2 y3 y4) (by
  unfold T156l1
  repeat' first | with_reducible exact cC | with_reducible refine cN cR fun _ => ?_ | with_reducible refine cT fun _ => ?_ | with_reducible refine cI fun _ => ?_ | with_reducible refine cM ?_ | with_reducible refine cF ?_ ?_ | with_reducible refine cL fun _ _ => ?_ | with_reducible refine cN cC fun _ => ?_ | with_reducible exact cR | exact cD0 gM) h

noncomputable def T159l1 (O : Orc) (k m q0 q1 : Nat) (y1 : Nat) (y2 : List V) (y3 : Int) (y4 : Nat) (y5 : List V) : Option V := bif decide (y3 < (↑y1 : Int)) then must (inB y3 y1) (asSl y2[y3.toNat *
 6]? fun x1 x2 => PI.asInt .i64 y2[y3.toNat * 6 + 1]? fun x3 => PI.asInt .i64 y2[y3.toNat * 6 + 1 + 1]? fun x4 => PI.asInt .i64 y2[y3.toNat * 6 + 1 + 1 + 1]? fun x5 => asSl y2[y3.toNat * 6 + 1 + 1 + 1
 + 1]? fun x6 x7 => PI.asInt .i64 y2[y3.toNat * 6 + 1 + 1 + 1 + 1 + 1]? fun x8 => need (O.R 0 43 [V.agg [V.sl x1 x2, V.int .i64 x3, V.int .i64 x4, V.int .i64 x5, V.sl x6 x7, V.int .i64 x8]]) fun x9 =>
 asTup (some x9) fun x10 => asOsl x10[0]? fun x11 x12 => PI.asInt .i64 x10[1]? fun x13 => PI.asInt .i64 x10[2]? fun x14 => PI.asInt .i64 x10[3]? fun x15 => asOsl x10[4]? fun x16 x17 => PI.asInt .i64
 x10[5]? fun x18 => must (inB y3 y4) (must (x12.all flatV) (must (x17.all flatV) (must ([V.own false 5 1 x11 x12, V.int .i64 x13, V.int .i64 x14, V.int .i64 x15, V.own false 5 1 x16 x17, V.int .i64
 x18].length.beq 6 && (y3.toNat * 6 + [V.own false 5 1 x11 x12, V.int .i64 x13, V.int .i64 x14, V.int .i64 x15, V.own false 5 1 x16 x17, V.int .i64 x18].length).ble y5.length) (O.L 0 159 0 [true, true,
 false, true] [] m [(0, V.sl y1 y2), (3, V.ref 0), (4, V.int .i64 (IntKind.i64.wrap (y3 + 1)))] [Ob.nrow [] 42 y4 (splice y5 (y3.toNat * 6) [V.own false 5 1 x11 x12, V.int .i64 x13, V.int .i64 x14,
 V.int .i64 x15, V.own false 5 1 x16 x17, V.int .i64 x18])]))))) else some (V.tup [V.osl y4 y5])
theorem e159l1 (k m q0 q1 : Nat) (y1 : Nat) (y2 : List V) (y3 : Int) (y4 : Nat) (y5 : List V) : runL C k 159 0 [true, true, false, true] [] (m + 1) [(0, V.sl y1 y2), (3, V.ref 0), (4, V.int .i64 y3)]
 [Ob.nrow [] 42 y4 y5] = T159l1 (orc C k) k m q0 q1 y1 y2 y3 y4 y5 := by kernel_rfl
theorem E159l1 (y1 : Nat) (y2 : List V) (y3 : Int) (y4 : Nat) (y5 : List V) {r : V} (h : T159l1 (orcE C) 0 0 0 0 y1 y2 y3 y4 y5 = some r) : loopE C 159 0 [true, true, false, true] [] [(0, V.sl y1 y2),
 (3, V.ref 0), (4, V.int .i64 y3)] [Ob.nrow [] 42 y4 y5] = some r := ofL (j := 0) (F := fun s => T159l1 (orc C s.k) s.k s.m 0 0 y1 y2 y3 y4 y5) (fs0 fun k m => e159l1 k m 0 0 y1 y2 y3 y4 y5) (by
  unfold T159l1
  repeat' first | with_reducible exact cC | with_reducible refine cN cR fun _ => ?_ | with_reducible refine cT fun _ => ?_ | with_reducible refine cI fun _ => ?_ | with_reducible refine cM ?_ | with_reducible refine cF ?_ ?_ | with_reducible refine cL fun _ _ => ?_ | with_reducible refine cO fun _ _ => ?_ | with_reducible refine cN cC fun _ => ?_ | with_reducible exact cR | exact cD0 gM) h

noncomputable def T119l1 (O : Orc) (k m q0 q1 : Nat) (y1 : Nat) (y2 : List V) (y3 : Int) (y4 : Nat) (y5 : List V) : Option V := bif decide (y3 < (↑y1 : Int)) then must (inB y3 y1) (PI.asInt .u8
 y2[y3.toNat * 1]? fun x1 => must (inB y3 y4) (must ([V.int .u8 x1].length.beq 1 && (y3.toNat * 1 + [V.int .u8 x1].length).ble y5.length) (O.L 0 119 0 [true, true, false, true] [] m [(0, V.sl y1 y2),
 (3, V.ref 0), (4, V.int .i64 (IntKind.i64.wrap (y3 + 1)))] [Ob.row 5 y4 (splice y5 (y3.toNat * 1) [V.int .u8 x1]) false]))) else must (false || y5.all flatV) (some (V.tup [V.osl y4 y5]))
theorem e119l1 (k m q0 q1 : Nat) (y1 : Nat) (y2 : List V) (y3 : Int) (y4 : Nat) (y5 : List V) : runL C k 119 0 [true, true, false, true] [] (m + 1) [(0, V.sl y1 y2), (3, V.ref 0), (4, V.int .i64 y3)]
 [Ob.row 5 y4 y5 false] = T119l1 (orc C k) k m q0 q1 y1 y2 y3 y4 y5 := by kernel_rfl
theorem E119l1 (y1 : Nat) (y2 : List V) (y3 : Int) (y4 : Nat) (y5 : List V) {r : V} (h : T119l1 (orcE C) 0 0 0 0 y1 y2 y3 y4 y5 = some r) : loopE C 119 0 [true, true, false, true] [] [(0, V.sl y1 y2),
 (3, V.ref 0), (4, V.int .i64 y3)] [Ob.row 5 y4 y5 false] = some r := ofL (j := 0) (F := fun s => T119l1 (orc C s.k) s.k s.m 0 0 y1 y2 y3 y4 y5) (fs0 fun k m => e119l1 k m 0 0 y1 y2 y3 y4 y5) (by
  unfold T119l1
  repeat' first | with_reducible exact cC | with_reducible refine cI fun _ => ?_ | with_reducible refine cM ?_ | with_reducible refine cF ?_ ?_ | exact cD0 gM) h

noncomputable def T103 (O : Orc) (k m q0 q1 : Nat) (y1 : Int) (y2 : Int) (y3 : Int) : Option V := bif decide (y1 ≥ y2) then some (V.tup [V.bool (decide (y1 ≤ y3))]) else some (V.tup [V.bool false])
theorem e103 (k m q0 q1 : Nat) (y1 : Int) (y2 : Int) (y3 : Int) : runV C (k + 1) 103 [V.int .i64 y1, V.int .i64 y2, V.int .i64 y3] = T103 (orc C k) k m q0 q1 y1 y2 y3 := by kernel_rfl
theorem E103 (y1 : Int) (y2 : Int) (y3 : Int) {r : V} (h : T103 (orcE C) 0 0 0 0 y1 y2 y3 = some r) : runE C 103 [V.int .i64 y1, V.int .i64 y2, V.int .i64 y3] = some r := ofR (F := fun s => T103 (orc C
 s.k) s.k s.m 0 0 y1 y2 y3) (fun k => e103 k k 0 0 y1 y2 y3) (by
  unfold T103
  repeat' first | with_reducible exact cC | with_reducible refine cF ?_ ?_) h

noncomputable def T202 (O : Orc) (k m q0 q1 : Nat) (y1 : Nat) (y2 : List V) : Option V := O.L 0 202 0 [true, true, false, true] [] k [(0, V.sl y1 y2), (3, V.ref 0), (4, V.int .i64 0)] [Ob.nrow [] 22 0
 []]
theorem e202 (k m q0 q1 : Nat) (y1 : Nat) (y2 : List V) : runV C (k + 1) 202 [V.sl y1 y2] = T202 (orc C k) k m q0 q1 y1 y2 := by kernel_rfl
theorem E202 (y1 : Nat) (y2 : List V) {r : V} (h : T202 (orcE C) 0 0 0 0 y1 y2 = some r) : runE C 202 [V.sl y1 y2] = some r := ofR (F := fun s => T202 (orc C s.k) s.k s.m 0 0 y1 y2) (fun k => e202 k k
 0 0 y1 y2) (by
  unfold T202
  repeat' first | with_reducible exact cC | exact cD0 gK) h

noncomputable def T127l1 (O : Orc) (k m q0 q1 : Nat) (y1 : Int) (y2 : Nat) (y3 : List V) (y4 : Int) (y5 : Nat) (y6 : List V) : Option V := bif decide (y1 < (↑y2 : Int)) then must (inB y1 y2) (asSl
 y3[y1.toNat * 6]? fun x1 x2 => PI.asInt .i64 y3[y1.toNat * 6 + 1]? fun x3 => PI.asInt .i64 y3[y1.toNat * 6 + 1 + 1]? fun x4 => PI.asInt .i64 y3[y1.toNat * 6 + 1 + 1 + 1]? fun x5 => asSl y3[y1.toNat *
 6 + 1 + 1 + 1 + 1]? fun x6 x7 => PI.asInt .i64 y3[y1.toNat * 6 + 1 + 1 + 1 + 1 + 1]? fun x8 => need (O.R 0 203 [V.agg [V.sl x1 x2, V.int .i64 x3, V.int .i64 x4, V.int .i64 x5, V.sl x6 x7, V.int .i64
 x8]]) fun x9 => asTup (some x9) fun x10 => PI.asInt .i64 x10[0]? fun x11 => bif x11 != 0 then some (V.tup [V.int .i64 x11]) else bif y1 == 0 then must (inB 0 y2) (asSl y3[0]? fun x12 x13 => PI.asInt
 .i64 y3[1]? fun x14 => PI.asInt .i64 y3[2]? fun x15 => PI.asInt .i64 y3[3]? fun x16 => asSl y3[4]? fun x17 x18 => PI.asInt .i64 y3[5]? fun x19 => need (O.R 0 204 [V.agg [V.sl x12 x13, V.int .i64 x14,
 V.int .i64 x15, V.int .i64 x16, V.sl x17 x18, V.int .i64 x19]]) fun x20 => asTup (some x20) fun x21 => PI.asBool x21[0]? fun x22 => bif !x22 then some (V.tup [V.int .i64 1]) else O.L 0 127 0 [true,
 true, true, true, true, false, true] [] m [(1, V.ptr 0 0), (3, V.ref 1), (4, V.int .i64 (IntKind.i64.wrap (y1 + 1)))] [Ob.box 81 [V.sl y2 y3, V.int .i64 y4] false, Ob.nrow [] 22 y5 y6]) else must
 (decide (0 ≤ y1) && decide (y1 ≤ (↑y2 : Int))) (must (decide (0 ≤ y1) && decide (y1 ≤ (↑y5 : Int))) (must (inB y1 y2) (asSl y3[y1.toNat * 6]? fun x23 x24 => PI.asInt .i64 y3[y1.toNat * 6 + 1]? fun x25
 => PI.asInt .i64 y3[y1.toNat * 6 + 1 + 1]? fun x26 => PI.asInt .i64 y3[y1.toNat * 6 + 1 + 1 + 1]? fun x27 => asSl y3[y1.toNat * 6 + 1 + 1 + 1 + 1]? fun x28 x29 => PI.asInt .i64 y3[y1.toNat * 6 + 1 + 1
 + 1 + 1 + 1]? fun x30 => need (O.R 0 205 [V.sl (y1.toNat - 0) (List.take ((y1.toNat - 0) * 6) (List.drop 0 y3)), V.sl (y1.toNat - 0) (List.take ((y1.toNat - 0) * 1) (List.drop 0 (bareL y6))), V.agg
 [V.sl x23 x24, V.int .i64 x25, V.int .i64 x26, V.int .i64 x27, V.sl x28 x29, V.int .i64 x30]]) fun x31 => asTup (some x31) fun x32 => PI.asInt .i64 x32[0]? fun x33 => bif x33 != 0 then some (V.tup
 [V.int .i64 x33]) else O.L 0 127 0 [true, true, true, true, true, false, true] [] m [(1, V.ptr 0 0), (3, V.ref 1), (4, V.int .i64 (IntKind.i64.wrap (y1 + 1)))] [Ob.box 81 [V.sl y2 y3, V.int .i64 y4]
 false, Ob.row 22 y5 (bareL y6) true])))) else some (V.tup [V.int .i64 0])
theorem e127l1 (k m q0 q1 : Nat) (y1 : Int) (y2 : Nat) (y3 : List V) (y4 : Int) (y5 : Nat) (y6 : List V) : runL C k 127 0 [true, true, true, true, true, false, true] [] (m + 1) [(1, V.ptr 0 0), (3,
 V.ref 1), (4, V.int .i64 y1)] [Ob.box 81 [V.sl y2 y3, V.int .i64 y4] false, Ob.nrow [] 22 y5 y6] = T127l1 (orc C k) k m q0 q1 y1 y2 y3 y4 y5 y6 := by kernel_rfl
theorem E127l1 (y1 : Int) (y2 : Nat) (y3 : List V) (y4 : Int) (y5 : Nat) (y6 : List V) {r : V} (h : T127l1 (orcE C) 0 0 0 0 y1 y2 y3 y4 y5 y6 = some r) : loopE C 127 0 [true, true, true, true, true,
 false, true] [] [(1, V.ptr 0 0), (3, V.ref 1), (4, V.int .i64 y1)] [Ob.box 81 [V.sl y2 y3, V.int .i64 y4] false, Ob.nrow [] 22 y5 y6] = some r := ofL (j := 0) (F := fun s => T127l1 (orc C s.k) s.k s.m
 0 0 y1 y2 y3 y4 y5 y6) (fs0 fun k m => e127l1 k m 0 0 y1 y2 y3 y4 y5 y6) (by
  unfold T127l1
  repeat' first | with_reducible exact cC | with_reducible refine cN cR fun _ => ?_ | with_reducible refine cT fun _ => ?_ | with_reducible refine cI fun _ => ?_ | with_reducible refine cM ?_ | with_reducible refine cF ?_ ?_ | with_reducible refine cB fun _ => ?_ | with_reducible refine cL fun _ _ => ?_ | with_reducible refine cN cC fun _ => ?_ | with_reducible exact cR | exact cD0 gM) h

noncomputable def T157l1 (O : Orc) (k m q0 q1 : Nat) (y1 : Int) (y2 : Nat) (y3 : List V) (y4 : Int) (y5 : Int) (y6 : Nat) (y7 : List V) (y8 : Int) (y9 : Nat) (y10 : List V) : Option V := bif decide (y1
 < (↑y2 : Int)) then must (inB y1 y2) (asSl y3[y1.toNat * 6]? fun x1 x2 => PI.asInt .i64 y3[y1.toNat * 6 + 1]? fun x3 => PI.asInt .i64 y3[y1.toNat * 6 + 1 + 1]? fun x4 => PI.asInt .i64 y3[y1.toNat * 6
 + 1 + 1 + 1]? fun x5 => asSl y3[y1.toNat * 6 + 1 + 1 + 1 + 1]? fun x6 x7 => PI.asInt .i64 y3[y1.toNat * 6 + 1 + 1 + 1 + 1 + 1]? fun x8 => need (O.R 0 113 [V.agg [V.sl x1 x2, V.int .i64 x3, V.int .i64
 x4, V.int .i64 x5, V.sl x6 x7, V.int .i64 x8]]) fun x9 => asTup (some x9) fun x10 => asOsl x10[0]? fun x11 x12 => PI.asInt .i64 x10[1]? fun x13 => PI.asInt .i64 x10[2]? fun x14 => PI.asInt .i64
 x10[3]? fun x15 => asOsl x10[4]? fun x16 x17 => PI.asInt .i64 x10[5]? fun x18 => must (x12.all flatV) (must (x17.all flatV) (must (true && (y9 + 1).ble 140737488355328 && ((y9 + 1) * 80).ble
 140737488355328) (O.L 0 157 0 [true, true, false, true] [] m [(1, V.ptr 0 0), (2, V.ptr 1 0), (3, V.ptr 3 0), (4, V.int .i64 (IntKind.i64.wrap (y1 + 1)))] [Ob.box 81 [V.sl y2 y3, V.int .i64 y4] false,
 Ob.box 81 [V.ref 2, V.int .i64 y5] false, Ob.nrow [] 42 y6 y7, Ob.box 81 [V.ref 4, V.int .i64 y8] false, Ob.nrow [] 42 (y9 + 1) (y10 ++ [V.own false 5 1 x11 x12, V.int .i64 x13, V.int .i64 x14, V.int
 .i64 x15, V.own false 5 1 x16 x17, V.int .i64 x18])])))) else some (V.tup [V.osl y9 y10, V.int .i64 y8])
theorem e157l1 (k m q0 q1 : Nat) (y1 : Int) (y2 : Nat) (y3 : List V) (y4 : Int) (y5 : Int) (y6 : Nat) (y7 : List V) (y8 : Int) (y9 : Nat) (y10 : List V) : runL C k 157 0 [true, true, false, true] [] (m
 + 1) [(1, V.ptr 0 0), (2, V.ptr 1 0), (3, V.ptr 3 0), (4, V.int .i64 y1)] [Ob.box 81 [V.sl y2 y3, V.int .i64 y4] false, Ob.box 81 [V.ref 2, V.int .i64 y5] false, Ob.nrow [] 42 y6 y7, Ob.box 81 [V.ref
 4, V.int .i64 y8] false, Ob.nrow [] 42 y9 y10] = T157l1 (orc C k) k m q0 q1 y1 y2 y3 y4 y5 y6 y7 y8 y9 y10 := by kernel_rfl
theorem E157l1 (y1 : Int) (y2 : Nat) (y3 : List V) (y4 : Int) (y5 : Int) (y6 : Nat) (y7 : List V) (y8 : Int) (y9 : Nat) (y10 : List V) {r : V} (h : T157l1 (orcE C) 0 0 0 0 y1 y2 y3 y4 y5 y6 y7 y8 y9
 y10 = some r) : loopE C 157 0 [true, true, false, true] [] [(1, V.ptr 0 0), (2, V.ptr 1 0), (3, V.ptr 3 0), (4, V.int .i64 y1)] [Ob.box 81 [V.sl y2 y3, V.int .i64 y4] false, Ob.box 81 [V.ref 2, V.int
 .i64 y5] false, Ob.nrow [] 42 y6 y7, Ob.box 81 [V.ref 4, V.int .i64 y8] false, Ob.nrow [] 42 y9 y10] = some r := ofL (j := 0) (F := fun s => T157l1 (orc C s.k) s.k s.m 0 0 y1 y2 y3 y4 y5 y6 y7 y8 y9
 y10) (fs0 fun k m => e157l1 k m 0 0 y1 y2 y3 y4 y5 y6 y7 y8 y9 y10) (by
  unfold T157l1
  repeat' first | with_reducible exact cC | with_reducible refine cN cR fun _ => ?_ | with_reducible refine cT fun _ => ?_ | with_reducible refine cI fun _ => ?_ | with_reducible refine cM ?_ | with_reducible refine cF ?_ ?_ | with_reducible refine cL fun _ _ => ?_ | with_reducible refine cO fun _ _ => ?_ | with_reducible refine cN cC fun _ => ?_ | with_reducible exact cR | exact cD0 gM) h

noncomputable def T203 (O : Orc) (k m q0 q1 : Nat) (y1 : Nat) (y2 : List V) (y3 : Int) (y4 : Int) (y5 : Int) (y6 : Nat) (y7 : List V) (y8 : Int) : Option V := need (O.R 0 21 [V.agg [V.sl y1 y2, V.int
 .i64 y3, V.int .i64 y4, V.int .i64 y5, V.sl y6 y7, V.int .i64 y8]]) fun x1 => asTup (some x1) fun x2 => PI.asInt .i64 x2[0]? fun x3 => bif x3 != 0 then some (V.tup [V.int .i64 x3]) else need (O.R 0
 256 [V.agg [V.sl y1 y2, V.int .i64 y3, V.int .i64 y4, V.int .i64 y5, V.sl y6 y7, V.int .i64 y8]]) fun x4 => asTup (some x4) fun x5 => PI.asBool x5[0]? fun x6 => bif !x6 then some (V.tup [V.int .i64
 6]) else some (V.tup [V.int .i64 0])
theorem e203 (k m q0 q1 : Nat) (y1 : Nat) (y2 : List V) (y3 : Int) (y4 : Int) (y5 : Int) (y6 : Nat) (y7 : List V) (y8 : Int) : runV C (k + 1) 203 [V.agg [V.sl y1 y2, V.int .i64 y3, V.int .i64 y4, V.int
 .i64 y5, V.sl y6 y7, V.int .i64 y8]] = T203 (orc C k) k m q0 q1 y1 y2 y3 y4 y5 y6 y7 y8 := by kernel_rfl
theorem E203 (y1 : Nat) (y2 : List V) (y3 : Int) (y4 : Int) (y5 : Int) (y6 : Nat) (y7 : List V) (y8 : Int) {r : V} (h : T203 (orcE C) 0 0 0 0 y1 y2 y3 y4 y5 y6 y7 y8 = some r) : runE C 203 [V.agg [V.sl
 y1 y2, V.int .i64 y3, V.int .i64 y4, V.int .i64 y5, V.sl y6 y7, V.int .i64 y8]] = some r := ofR (F := fun s => T203 (orc C s.k) s.k s.m 0 0 y1 y2 y3 y4 y5 y6 y7 y8) (fun k => e203 k k 0 0 y1 y2 y3 y4
 y5 y6 y7 y8) (by
  unfold T203
  repeat' first | with_reducible exact cC | with_reducible refine cN cR fun _ => ?_ | with_reducible refine cT fun _ => ?_ | with_reducible refine cI fun _ => ?_ | with_reducible refine cF ?_ ?_ | with_reducible refine cB fun _ => ?_ | with_reducible refine cN cC fun _ => ?_ | with_reducible exact cR) h

noncomputable def T205 (O : Orc) (k m q0 q1 : Nat) (y1 : Nat) (y2 : List V) (y3 : Nat) (y4 : List V) (y5 : Nat) (y6 : List V) (y7 : Int) (y8 : Int) (y9 : Int) (y10 : Nat) (y11 : List V) (y12 : Int) :
 Option V := need (O.R 0 258 [V.agg [V.sl y5 y6, V.int .i64 y7, V.int .i64 y8, V.int .i64 y9, V.sl y10 y11, V.int .i64 y12]]) fun x1 => asTup (some x1) fun x2 => asOsl x2[0]? fun x3 x4 => need (O.R 0
 257 [V.sl y3 y4, V.sl x3 x4]) fun x5 => asTup (some x5) fun x6 => PI.asInt .i64 x6[0]? fun x7 => bif decide (x7 ≥ 0) then some (V.tup [V.int .i64 7]) else need (O.R 0 257 [V.sl y3 y4, V.sl y5 y6]) fun
 x8 => asTup (some x8) fun x9 => PI.asInt .i64 x9[0]? fun x10 => bif decide (x10 < 0) then some (V.tup [V.int .i64 4]) else must (inB x10 y1) (PI.asInt .i64 y2[x10.toNat * 6 + 1]? fun x11 => bif y7 !=
 IntKind.i64.wrap (x11 + 1) then some (V.tup [V.int .i64 1]) else must (inB x10 y1) (PI.asInt .i64 y2[x10.toNat * 6 + 2]? fun x12 => bif decide (y8 ≤ x12) then some (V.tup [V.int .i64 1]) else need
 (O.R 0 260 [V.sl y1 y2, V.sl y3 y4, V.int .i64 x10]) fun x13 => asTup (some x13) fun x14 => asSl x14[0]? fun x15 x16 => need (O.R 0 259 [V.sl x15 x16]) fun x17 => asTup (some x17) fun x18 => PI.asInt
 .i64 x18[0]? fun x19 => bif y9 != x19 then some (V.tup [V.int .i64 1]) else some (V.tup [V.int .i64 0])))
theorem e205 (k m q0 q1 : Nat) (y1 : Nat) (y2 : List V) (y3 : Nat) (y4 : List V) (y5 : Nat) (y6 : List V) (y7 : Int) (y8 : Int) (y9 : Int) (y10 : Nat) (y11 : List V) (y12 : Int) : runV C (k + 1) 205
 [V.sl y1 y2, V.sl y3 y4, V.agg [V.sl y5 y6, V.int .i64 y7, V.int .i64 y8, V.int .i64 y9, V.sl y10 y11, V.int .i64 y12]] = T205 (orc C k) k m q0 q1 y1 y2 y3 y4 y5 y6 y7 y8 y9 y10 y11 y12 := by
 kernel_rfl
theorem E205 (y1 : Nat) (y2 : List V) (y3 : Nat) (y4 : List V) (y5 : Nat) (y6 : List V) (y7 : Int) (y8 : Int) (y9 : Int) (y10 : Nat) (y11 : List V) (y12 : Int) {r : V} (h : T205 (orcE C) 0 0 0 0 y1 y2
 y3 y4 y5 y6 y7 y8 y9 y10 y11 y12 = some r) : runE C 205 [V.sl y1 y2, V.sl y3 y4, V.agg [V.sl y5 y6, V.int .i64 y7, V.int .i64 y8, V.int .i64 y9, V.sl y10 y11, V.int .i64 y12]] = some r := ofR (F :=
 fun s => T205 (orc C s.k) s.k s.m 0 0 y1 y2 y3 y4 y5 y6 y7 y8 y9 y10 y11 y12) (fun k => e205 k k 0 0 y1 y2 y3 y4 y5 y6 y7 y8 y9 y10 y11 y12) (by
  unfold T205
  repeat' first | with_reducible exact cC | with_reducible refine cN cR fun _ => ?_ | with_reducible refine cT fun _ => ?_ | with_reducible refine cI fun _ => ?_ | with_reducible refine cM ?_ | with_reducible refine cF ?_ ?_ | with_reducible refine cL fun _ _ => ?_ | with_reducible refine cO fun _ _ => ?_ | with_reducible refine cN cC fun _ => ?_ | with_reducible exact cR) h

noncomputable def T113 (O : Orc) (k m q0 q1 : Nat) (y1 : Nat) (y2 : List V) (y3 : Int) (y4 : Int) (y5 : Int) (y6 : Nat) (y7 : List V) (y8 : Int) : Option V := must (decide (y2.length = y1 * 1)) (must
 (true && (0 + y1).ble 140737488355328 && ((0 + y1) * 1).ble 140737488355328) (must (decide (y7.length = y6 * 1)) (must (true && (0 + y6).ble 140737488355328 && ((0 + y6) * 1).ble 140737488355328)
 (must (false || y2.all flatV) (must (false || y7.all flatV) (some (V.tup [V.osl (0 + y1) y2, V.int .i64 y3, V.int .i64 y4, V.int .i64 y5, V.osl (0 + y6) y7, V.int .i64 y8])))))))
theorem e113 (k m q0 q1 : Nat) (y1 : Nat) (y2 : List V) (y3 : Int) (y4 : Int) (y5 : Int) (y6 : Nat) (y7 : List V) (y8 : Int) : runV C (k + 1) 113 [V.agg [V.sl y1 y2, V.int .i64 y3, V.int .i64 y4, V.int
 .i64 y5, V.sl y6 y7, V.int .i64 y8]] = T113 (orc C k) k m q0 q1 y1 y2 y3 y4 y5 y6 y7 y8 := by kernel_rfl
theorem E113 (y1 : Nat) (y2 : List V) (y3 : Int) (y4 : Int) (y5 : Int) (y6 : Nat) (y7 : List V) (y8 : Int) {r : V} (h : T113 (orcE C) 0 0 0 0 y1 y2 y3 y4 y5 y6 y7 y8 = some r) : runE C 113 [V.agg [V.sl
 y1 y2, V.int .i64 y3, V.int .i64 y4, V.int .i64 y5, V.sl y6 y7, V.int .i64 y8]] = some r := ofR (F := fun s => T113 (orc C s.k) s.k s.m 0 0 y1 y2 y3 y4 y5 y6 y7 y8) (fun k => e113 k k 0 0 y1 y2 y3 y4
 y5 y6 y7 y8) (by
  unfold T113
  repeat' first | with_reducible exact cC | with_reducible refine cM ?_) h

noncomputable def T92 (O : Orc) (k m q0 q1 : Nat) (y1 : Int) (y2 : Int) (y3 : Int) : Option V := bif decide (y2 ≤ y1) then some (V.tup [V.bool (decide (y1 ≤ y3))]) else some (V.tup [V.bool false])
theorem e92 (k m q0 q1 : Nat) (y1 : Int) (y2 : Int) (y3 : Int) : runV C (k + 1) 92 [V.int .i64 y1, V.int .i64 y2, V.int .i64 y3] = T92 (orc C k) k m q0 q1 y1 y2 y3 := by kernel_rfl
theorem E92 (y1 : Int) (y2 : Int) (y3 : Int) {r : V} (h : T92 (orcE C) 0 0 0 0 y1 y2 y3 = some r) : runE C 92 [V.int .i64 y1, V.int .i64 y2, V.int .i64 y3] = some r := ofR (F := fun s => T92 (orc C
 s.k) s.k s.m 0 0 y1 y2 y3) (fun k => e92 k k 0 0 y1 y2 y3) (by
  unfold T92
  repeat' first | with_reducible exact cC | with_reducible refine cF ?_ ?_) h

noncomputable def T129l1 (O : Orc) (k m q0 q1 : Nat) (y1 : Nat) (y2 : List V) (y3 : Int) (y4 : Int) (y5 : Nat) (y6 : List V) (y7 : Int) : Option V := bif decide (y4 < y3) then must (inB y4 y1) (asSl
 y2[y4.toNat * 6]? fun x1 x2 => PI.asInt .i64 y2[y4.toNat * 6 + 1]? fun x3 => PI.asInt .i64 y2[y4.toNat * 6 + 1 + 1]? fun x4 => PI.asInt .i64 y2[y4.toNat * 6 + 1 + 1 + 1]? fun x5 => asSl y2[y4.toNat *
 6 + 1 + 1 + 1 + 1]? fun x6 x7 => PI.asInt .i64 y2[y4.toNat * 6 + 1 + 1 + 1 + 1 + 1]? fun x8 => need (O.R 0 206 [V.agg [V.sl x1 x2, V.int .i64 x3, V.int .i64 x4, V.int .i64 x5, V.sl x6 x7, V.int .i64
 x8]]) fun x9 => asTup (some x9) fun x10 => PI.asInt .i64 x10[0]? fun x11 => bif x11 != 0 then some (V.tup [V.int .i64 x11]) else bif y4 == 0 then need (O.R 0 207 [V.agg [V.sl x1 x2, V.int .i64 x3,
 V.int .i64 x4, V.int .i64 x5, V.sl x6 x7, V.int .i64 x8]]) fun x12 => asTup (some x12) fun x13 => PI.asBool x13[0]? fun x14 => bif !x14 then some (V.tup [V.int .i64 1]) else O.L 0 129 1 [true, true,
 false, true] [] m [(1, V.ptr 0 0), (23, V.sl y1 y2), (24, V.int .i64 y3), (25, V.int .i64 (IntKind.i64.wrap (y4 + 1)))] [Ob.box 81 [V.sl y5 y6, V.int .i64 y7] false] else must (decide (0 ≤ y4) &&
 decide (y4 ≤ (↑y5 : Int))) (need (O.R 0 208 [V.sl (y4.toNat - 0) (List.take ((y4.toNat - 0) * 6) (List.drop 0 y6)), V.agg [V.sl x1 x2, V.int .i64 x3, V.int .i64 x4, V.int .i64 x5, V.sl x6 x7, V.int
 .i64 x8]]) fun x15 => asTup (some x15) fun x16 => PI.asInt .i64 x16[0]? fun x17 => bif x17 != 0 then some (V.tup [V.int .i64 x17]) else O.L 0 129 1 [true, true, false, true] [] m [(1, V.ptr 0 0), (23,
 V.sl y1 y2), (24, V.int .i64 y3), (25, V.int .i64 (IntKind.i64.wrap (y4 + 1)))] [Ob.box 81 [V.sl y5 y6, V.int .i64 y7] false])) else some (V.tup [V.int .i64 0])
theorem e129l1 (k m q0 q1 : Nat) (y1 : Nat) (y2 : List V) (y3 : Int) (y4 : Int) (y5 : Nat) (y6 : List V) (y7 : Int) : runL C k 129 1 [true, true, false, true] [] (m + 1) [(1, V.ptr 0 0), (23, V.sl y1
 y2), (24, V.int .i64 y3), (25, V.int .i64 y4)] [Ob.box 81 [V.sl y5 y6, V.int .i64 y7] false] = T129l1 (orc C k) k m q0 q1 y1 y2 y3 y4 y5 y6 y7 := by kernel_rfl
theorem E129l1 (y1 : Nat) (y2 : List V) (y3 : Int) (y4 : Int) (y5 : Nat) (y6 : List V) (y7 : Int) {r : V} (h : T129l1 (orcE C) 0 0 0 0 y1 y2 y3 y4 y5 y6 y7 = some r) : loopE C 129 1 [true, true, false,
 true] [] [(1, V.ptr 0 0), (23, V.sl y1 y2), (24, V.int .i64 y3), (25, V.int .i64 y4)] [Ob.box 81 [V.sl y5 y6, V.int .i64 y7] false] = some r := ofL (j := 0) (F := fun s => T129l1 (orc C s.k) s.k s.m 0
 0 y1 y2 y3 y4 y5 y6 y7) (fs0 fun k m => e129l1 k m 0 0 y1 y2 y3 y4 y5 y6 y7) (by
  unfold T129l1
  repeat' first | with_reducible exact cC | with_reducible refine cN cR fun _ => ?_ | with_reducible refine cT fun _ => ?_ | with_reducible refine cI fun _ => ?_ | with_reducible refine cM ?_ | with_reducible refine cF ?_ ?_ | with_reducible refine cB fun _ => ?_ | with_reducible refine cL fun _ _ => ?_ | with_reducible refine cN cC fun _ => ?_ | with_reducible exact cR | exact cD0 gM) h

noncomputable def T206 (O : Orc) (k m q0 q1 : Nat) (y1 : Nat) (y2 : List V) (y3 : Int) (y4 : Int) (y5 : Int) (y6 : Nat) (y7 : List V) (y8 : Int) : Option V := need (O.R 0 99 [V.agg [V.sl y1 y2, V.int
 .i64 y3, V.int .i64 y4, V.int .i64 y5, V.sl y6 y7, V.int .i64 y8]]) fun x1 => asTup (some x1) fun x2 => PI.asInt .i64 x2[0]? fun x3 => bif x3 != 0 then some (V.tup [V.int .i64 x3]) else need (O.R 0
 261 [V.agg [V.sl y1 y2, V.int .i64 y3, V.int .i64 y4, V.int .i64 y5, V.sl y6 y7, V.int .i64 y8]]) fun x4 => asTup (some x4) fun x5 => PI.asBool x5[0]? fun x6 => bif !x6 then some (V.tup [V.int .i64
 6]) else some (V.tup [V.int .i64 0])
theorem e206 (k m q0 q1 : Nat) (y1 : Nat) (y2 : List V) (y3 : Int) (y4 : Int) (y5 : Int) (y6 : Nat) (y7 : List V) (y8 : Int) : runV C (k + 1) 206 [V.agg [V.sl y1 y2, V.int .i64 y3, V.int .i64 y4, V.int
 .i64 y5, V.sl y6 y7, V.int .i64 y8]] = T206 (orc C k) k m q0 q1 y1 y2 y3 y4 y5 y6 y7 y8 := by kernel_rfl
theorem E206 (y1 : Nat) (y2 : List V) (y3 : Int) (y4 : Int) (y5 : Int) (y6 : Nat) (y7 : List V) (y8 : Int) {r : V} (h : T206 (orcE C) 0 0 0 0 y1 y2 y3 y4 y5 y6 y7 y8 = some r) : runE C 206 [V.agg [V.sl
 y1 y2, V.int .i64 y3, V.int .i64 y4, V.int .i64 y5, V.sl y6 y7, V.int .i64 y8]] = some r := ofR (F := fun s => T206 (orc C s.k) s.k s.m 0 0 y1 y2 y3 y4 y5 y6 y7 y8) (fun k => e206 k k 0 0 y1 y2 y3 y4
 y5 y6 y7 y8) (by
  unfold T206
  repeat' first | with_reducible exact cC | with_reducible refine cN cR fun _ => ?_ | with_reducible refine cT fun _ => ?_ | with_reducible refine cI fun _ => ?_ | with_reducible refine cF ?_ ?_ | with_reducible refine cB fun _ => ?_ | with_reducible refine cN cC fun _ => ?_ | with_reducible exact cR) h

noncomputable def T208 (O : Orc) (k m q0 q1 : Nat) (y1 : Nat) (y2 : List V) (y3 : Nat) (y4 : List V) (y5 : Int) (y6 : Int) (y7 : Int) (y8 : Nat) (y9 : List V) (y10 : Int) : Option V := need (O.R 7 104
 [V.agg [V.sl y3 y4, V.int .i64 y5, V.int .i64 y6, V.int .i64 y7, V.sl y8 y9, V.int .i64 y10]]) fun x1 => asTup (some x1) fun x2 => asSl x2[0]? fun x3 x4 => need (O.R 6 295 [V.sl y1 y2, V.fn 263 [V.pin
 [V.sl x3 x4] 0]]) fun x5 => asTup (some x5) fun x6 => PI.asInt .i64 x6[0]? fun x7 => bif decide (x7 ≥ 0) then some (V.tup [V.int .i64 7]) else need (O.R 7 264 [V.sl y1 y2, V.agg [V.sl y3 y4, V.int
 .i64 y5, V.int .i64 y6, V.int .i64 y7, V.sl y8 y9, V.int .i64 y10]]) fun x8 => asTup (some x8) fun x9 => PI.asInt .i64 x9[0]? fun x10 => bif decide (x10 < 0) then some (V.tup [V.int .i64 4]) else must
 (inB x10 y1) (PI.asInt .i64 y2[x10.toNat * 6 + 1]? fun x11 => bif y5 != IntKind.i64.wrap (x11 + 1) then some (V.tup [V.int .i64 1]) else must (inB x10 y1) (PI.asInt .i64 y2[x10.toNat * 6 + 2]? fun x12
 => bif decide (y6 ≤ x12) then some (V.tup [V.int .i64 1]) else need (O.R 7 267 [V.sl y1 y2, V.int .i64 x10]) fun x13 => asTup (some x13) fun x14 => asSl x14[0]? fun x15 x16 => need (O.R 7 266 [V.sl y1
 y2, V.sl x15 x16]) fun x17 => asTup (some x17) fun x18 => asSl x18[0]? fun x19 x20 => need (O.R 7 265 [V.sl x19 x20]) fun x21 => asTup (some x21) fun x22 => PI.asInt .i64 x22[0]? fun x23 => bif y7 !=
 x23 then some (V.tup [V.int .i64 1]) else some (V.tup [V.int .i64 0])))
theorem e208 (k m q0 q1 : Nat) (y1 : Nat) (y2 : List V) (y3 : Nat) (y4 : List V) (y5 : Int) (y6 : Int) (y7 : Int) (y8 : Nat) (y9 : List V) (y10 : Int) : runV C (k + 8) 208 [V.sl y1 y2, V.agg [V.sl y3
 y4, V.int .i64 y5, V.int .i64 y6, V.int .i64 y7, V.sl y8 y9, V.int .i64 y10]] = T208 (orc C k) k m q0 q1 y1 y2 y3 y4 y5 y6 y7 y8 y9 y10 := by kernel_rfl
theorem E208 (y1 : Nat) (y2 : List V) (y3 : Nat) (y4 : List V) (y5 : Int) (y6 : Int) (y7 : Int) (y8 : Nat) (y9 : List V) (y10 : Int) {r : V} (h : T208 (orcE C) 0 0 0 0 y1 y2 y3 y4 y5 y6 y7 y8 y9 y10 =
 some r) : runE C 208 [V.sl y1 y2, V.agg [V.sl y3 y4, V.int .i64 y5, V.int .i64 y6, V.int .i64 y7, V.sl y8 y9, V.int .i64 y10]] = some r := ofR (F := fun s => T208 (orc C s.k) s.k s.m 0 0 y1 y2 y3 y4
 y5 y6 y7 y8 y9 y10) (fun k => e208 k k 0 0 y1 y2 y3 y4 y5 y6 y7 y8 y9 y10) (by
  unfold T208
  repeat' first | with_reducible exact cC | with_reducible refine cN cR fun _ => ?_ | with_reducible refine cT fun _ => ?_ | with_reducible refine cI fun _ => ?_ | with_reducible refine cM ?_ | with_reducible refine cF ?_ ?_ | with_reducible refine cL fun _ _ => ?_ | with_reducible refine cN cC fun _ => ?_ | with_reducible exact cR) h

noncomputable def T128l1 (O : Orc) (k m q0 q1 : Nat) (y1 : Nat) (y2 : List V) (y3 : Int) (y4 : Int) (y5 : Int) (y6 : Nat) (y7 : List V) (y8 : Int) (y9 : Nat) (y10 : List V) : Option V := bif decide (y4
 < y3) then must (inB y4 y1) (asSl y2[y4.toNat * 6]? fun x1 x2 => PI.asInt .i64 y2[y4.toNat * 6 + 1]? fun x3 => PI.asInt .i64 y2[y4.toNat * 6 + 1 + 1]? fun x4 => PI.asInt .i64 y2[y4.toNat * 6 + 1 + 1 +
 1]? fun x5 => asSl y2[y4.toNat * 6 + 1 + 1 + 1 + 1]? fun x6 x7 => PI.asInt .i64 y2[y4.toNat * 6 + 1 + 1 + 1 + 1 + 1]? fun x8 => need (O.R 0 108 [V.agg [V.sl x1 x2, V.int .i64 x3, V.int .i64 x4, V.int
 .i64 x5, V.sl x6 x7, V.int .i64 x8]]) fun x9 => asTup (some x9) fun x10 => asOsl x10[0]? fun x11 x12 => PI.asInt .i64 x10[1]? fun x13 => PI.asInt .i64 x10[2]? fun x14 => PI.asInt .i64 x10[3]? fun x15
 => asOsl x10[4]? fun x16 x17 => PI.asInt .i64 x10[5]? fun x18 => must (x12.all flatV) (must (x17.all flatV) (must (true && (y9 + 1).ble 140737488355328 && ((y9 + 1) * 80).ble 140737488355328) (O.L 0
 128 0 [true, true, false, true] [] m [(4, V.ptr 0 0), (5, V.ptr 2 0), (10, V.sl y1 y2), (11, V.int .i64 y3), (12, V.int .i64 (IntKind.i64.wrap (y4 + 1)))] [Ob.box 81 [V.ref 1, V.int .i64 y5] false,
 Ob.nrow [] 42 y6 y7, Ob.box 81 [V.ref 3, V.int .i64 y8] false, Ob.nrow [] 42 (y9 + 1) (y10 ++ [V.own false 5 1 x11 x12, V.int .i64 x13, V.int .i64 x14, V.int .i64 x15, V.own false 5 1 x16 x17, V.int
 .i64 x18])])))) else some (V.tup [V.osl y9 y10, V.int .i64 y8])
theorem e128l1 (k m q0 q1 : Nat) (y1 : Nat) (y2 : List V) (y3 : Int) (y4 : Int) (y5 : Int) (y6 : Nat) (y7 : List V) (y8 : Int) (y9 : Nat) (y10 : List V) : runL C k 128 0 [true, true, false, true] [] (m
 + 1) [(4, V.ptr 0 0), (5, V.ptr 2 0), (10, V.sl y1 y2), (11, V.int .i64 y3), (12, V.int .i64 y4)] [Ob.box 81 [V.ref 1, V.int .i64 y5] false, Ob.nrow [] 42 y6 y7, Ob.box 81 [V.ref 3, V.int .i64 y8]
 false, Ob.nrow [] 42 y9 y10] = T128l1 (orc C k) k m q0 q1 y1 y2 y3 y4 y5 y6 y7 y8 y9 y10 := by kernel_rfl
theorem E128l1 (y1 : Nat) (y2 : List V) (y3 : Int) (y4 : Int) (y5 : Int) (y6 : Nat) (y7 : List V) (y8 : Int) (y9 : Nat) (y10 : List V) {r : V} (h : T128l1 (orcE C) 0 0 0 0 y1 y2 y3 y4 y5 y6 y7 y8 y9
 y10 = some r) : loopE C 128 0 [true, true, false, true] [] [(4, V.ptr 0 0), (5, V.ptr 2 0), (10, V.sl y1 y2), (11, V.int .i64 y3), (12, V.int .i64 y4)] [Ob.box 81 [V.ref 1, V.int .i64 y5] false,
 Ob.nrow [] 42 y6 y7, Ob.box 81 [V.ref 3, V.int .i64 y8] false, Ob.nrow [] 42 y9 y10] = some r := ofL (j := 0) (F := fun s => T128l1 (orc C s.k) s.k s.m 0 0 y1 y2 y3 y4 y5 y6 y7 y8 y9 y10) (fs0 fun k m
 => e128l1 k m 0 0 y1 y2 y3 y4 y5 y6 y7 y8 y9 y10) (by
  unfold T128l1
  repeat' first | with_reducible exact cC | with_reducible refine cN cR fun _ => ?_ | with_reducible refine cT fun _ => ?_ | with_reducible refine cI fun _ => ?_ | with_reducible refine cM ?_ | with_reducible refine cF ?_ ?_ | with_reducible refine cL fun _ _ => ?_ | with_reducible refine cO fun _ _ => ?_ | with_reducible refine cN cC fun _ => ?_ | with_reducible exact cR | exact cD0 gM) h

noncomputable def T162l1 (O : Orc) (k m q0 q1 : Nat) (y1 : Nat) (y2 : List V) (y3 : Nat) (y4 : List V) (y5 : Int) : Option V := bif decide (y5 < (↑y1 : Int)) then must (inB y5 y1) (asSl y2[y5.toNat *
 6]? fun x1 x2 => PI.asInt .i64 y2[y5.toNat * 6 + 1]? fun x3 => PI.asInt .i64 y2[y5.toNat * 6 + 1 + 1]? fun x4 => PI.asInt .i64 y2[y5.toNat * 6 + 1 + 1 + 1]? fun x5 => asSl y2[y5.toNat * 6 + 1 + 1 + 1
 + 1]? fun x6 x7 => PI.asInt .i64 y2[y5.toNat * 6 + 1 + 1 + 1 + 1 + 1]? fun x8 => must (inB y5 y3) (asSl y4[y5.toNat * 6]? fun x9 x10 => PI.asInt .i64 y4[y5.toNat * 6 + 1]? fun x11 => PI.asInt .i64
 y4[y5.toNat * 6 + 1 + 1]? fun x12 => PI.asInt .i64 y4[y5.toNat * 6 + 1 + 1 + 1]? fun x13 => asSl y4[y5.toNat * 6 + 1 + 1 + 1 + 1]? fun x14 x15 => PI.asInt .i64 y4[y5.toNat * 6 + 1 + 1 + 1 + 1 + 1]?
 fun x16 => need (O.R 0 46 [V.agg [V.sl x1 x2, V.int .i64 x3, V.int .i64 x4, V.int .i64 x5, V.sl x6 x7, V.int .i64 x8], V.agg [V.sl x9 x10, V.int .i64 x11, V.int .i64 x12, V.int .i64 x13, V.sl x14 x15,
 V.int .i64 x16]]) fun x17 => asTup (some x17) fun x18 => PI.asBool x18[0]? fun x19 => bif !x19 then some (V.tup [V.bool false]) else O.L 0 162 0 [true, true, false, true] [] m [(0, V.sl y1 y2), (1,
 V.sl y3 y4), (5, V.int .i64 (IntKind.i64.wrap (y5 + 1)))] [])) else some (V.tup [V.bool true])
theorem e162l1 (k m q0 q1 : Nat) (y1 : Nat) (y2 : List V) (y3 : Nat) (y4 : List V) (y5 : Int) : runL C k 162 0 [true, true, false, true] [] (m + 1) [(0, V.sl y1 y2), (1, V.sl y3 y4), (5, V.int .i64
 y5)] [] = T162l1 (orc C k) k m q0 q1 y1 y2 y3 y4 y5 := by kernel_rfl
theorem E162l1 (y1 : Nat) (y2 : List V) (y3 : Nat) (y4 : List V) (y5 : Int) {r : V} (h : T162l1 (orcE C) 0 0 0 0 y1 y2 y3 y4 y5 = some r) : loopE C 162 0 [true, true, false, true] [] [(0, V.sl y1 y2),
 (1, V.sl y3 y4), (5, V.int .i64 y5)] [] = some r := ofL (j := 0) (F := fun s => T162l1 (orc C s.k) s.k s.m 0 0 y1 y2 y3 y4 y5) (fs0 fun k m => e162l1 k m 0 0 y1 y2 y3 y4 y5) (by
  unfold T162l1
  repeat' first | with_reducible exact cC | with_reducible refine cN cR fun _ => ?_ | with_reducible refine cT fun _ => ?_ | with_reducible refine cI fun _ => ?_ | with_reducible refine cM ?_ | with_reducible refine cF ?_ ?_ | with_reducible refine cB fun _ => ?_ | with_reducible refine cL fun _ _ => ?_ | with_reducible refine cN cC fun _ => ?_ | with_reducible exact cR | exact cD0 gM) h

noncomputable def T123l1 (O : Orc) (k m q0 q1 : Nat) (y1 : Nat) (y2 : List V) (y3 : Nat) (y4 : List V) (y5 : Int) : Option V := bif decide (y5 < (↑y1 : Int)) then must (inB y5 y1) (PI.asInt .u8
 y2[y5.toNat * 1]? fun x1 => must (inB y5 y3) (PI.asInt .u8 y4[y5.toNat * 1]? fun x2 => bif x1 != x2 then some (V.tup [V.bool false]) else O.L 0 123 0 [true, true, false, true] [] m [(0, V.sl y1 y2),
 (1, V.sl y3 y4), (5, V.int .i64 (IntKind.i64.wrap (y5 + 1)))] [])) else some (V.tup [V.bool true])
theorem e123l1 (k m q0 q1 : Nat) (y1 : Nat) (y2 : List V) (y3 : Nat) (y4 : List V) (y5 : Int) : runL C k 123 0 [true, true, false, true] [] (m + 1) [(0, V.sl y1 y2), (1, V.sl y3 y4), (5, V.int .i64
 y5)] [] = T123l1 (orc C k) k m q0 q1 y1 y2 y3 y4 y5 := by kernel_rfl
theorem E123l1 (y1 : Nat) (y2 : List V) (y3 : Nat) (y4 : List V) (y5 : Int) {r : V} (h : T123l1 (orcE C) 0 0 0 0 y1 y2 y3 y4 y5 = some r) : loopE C 123 0 [true, true, false, true] [] [(0, V.sl y1 y2),
 (1, V.sl y3 y4), (5, V.int .i64 y5)] [] = some r := ofL (j := 0) (F := fun s => T123l1 (orc C s.k) s.k s.m 0 0 y1 y2 y3 y4 y5) (fs0 fun k m => e123l1 k m 0 0 y1 y2 y3 y4 y5) (by
  unfold T123l1
  repeat' first | with_reducible exact cC | with_reducible refine cI fun _ => ?_ | with_reducible refine cM ?_ | with_reducible refine cF ?_ ?_ | exact cD0 gM) h

noncomputable def T163l1 (O : Orc) (k m q0 q1 : Nat) (y1 : Int) (y2 : Int) (y3 : Nat) (y4 : List V) : Option V := bif decide (y2 < (↑y3 : Int)) then must (inB y2 y3) (asOwn false 5 1 y4[y2.toNat * 6 +
 0]? fun x1 x2 => need (O.W 0 125 [0] [V.ref 0, V.int .i64 y1] [Ob.row 5 x1 x2 false]) fun x3 => asTup (some x3) fun x4 => PI.asInt .i64 x4[0]? fun x5 => asOsl x4[1]? fun x6 x7 => must (x7.all flatV)
 (must (inB y2 y3) (must ([V.int .i64 x5].length.beq 1 && (y2.toNat * 6 + 1 + [V.int .i64 x5].length).ble (y4.set (y2.toNat * 6 + 0) (V.own false 5 1 x6 x7)).length) (must (inB y2 y3) (must ([V.int
 .i64 (IntKind.i64.wrap (x5 + 1))].length.beq 1 && (y2.toNat * 6 + 2 + [V.int .i64 (IntKind.i64.wrap (x5 + 1))].length).ble (splice (y4.set (y2.toNat * 6 + 0) (V.own false 5 1 x6 x7)) (y2.toNat * 6 +
 1) [V.int .i64 x5]).length) (must (inB y2 y3) (must ([V.int .i64 (IntKind.i64.wrap (IntKind.i64.wrap (x5 + 1) + 1))].length.beq 1 && (y2.toNat * 6 + 3 + [V.int .i64 (IntKind.i64.wrap (IntKind.i64.wrap
 (x5 + 1) + 1))].length).ble (splice (splice (y4.set (y2.toNat * 6 + 0) (V.own false 5 1 x6 x7)) (y2.toNat * 6 + 1) [V.int .i64 x5]) (y2.toNat * 6 + 2) [V.int .i64 (IntKind.i64.wrap (x5 + 1))]).length)
 (must (inB y2 y3) (asOwn false 5 1 (splice (splice (splice (y4.set (y2.toNat * 6 + 0) (V.own false 5 1 x6 x7)) (y2.toNat * 6 + 1) [V.int .i64 x5]) (y2.toNat * 6 + 2) [V.int .i64 (IntKind.i64.wrap (x5
 + 1))]) (y2.toNat * 6 + 3) [V.int .i64 (IntKind.i64.wrap (IntKind.i64.wrap (x5 + 1) + 1))])[y2.toNat * 6 + 4]? fun x8 x9 => need (O.W 0 125 [0] [V.ref 0, V.int .i64 (IntKind.i64.wrap (IntKind.i64.wrap
 (IntKind.i64.wrap (x5 + 1) + 1) + 1))] [Ob.row 5 x8 x9 false]) fun x10 => asTup (some x10) fun x11 => PI.asInt .i64 x11[0]? fun x12 => asOsl x11[1]? fun x13 x14 => must (x14.all flatV) (must (inB y2
 y3) (must ([V.int .i64 x12].length.beq 1 && (y2.toNat * 6 + 5 + [V.int .i64 x12].length).ble ((splice (splice (splice (y4.set (y2.toNat * 6 + 0) (V.own false 5 1 x6 x7)) (y2.toNat * 6 + 1) [V.int .i64
 x5]) (y2.toNat * 6 + 2) [V.int .i64 (IntKind.i64.wrap (x5 + 1))]) (y2.toNat * 6 + 3) [V.int .i64 (IntKind.i64.wrap (IntKind.i64.wrap (x5 + 1) + 1))]).set (y2.toNat * 6 + 4) (V.own false 5 1 x13
 x14)).length) (O.X 0 163 [0] [Ob.nrow [] 42 0 []] 0 [true, false, true] [] m [(0, V.ref 0), (1, V.int .i64 (IntKind.i64.wrap (x12 + 1))), (5, V.int .i64 (IntKind.i64.wrap (y2 + 1)))] [Ob.nrow [] 42 y3
 (splice ((splice (splice (splice (y4.set (y2.toNat * 6 + 0) (V.own false 5 1 x6 x7)) (y2.toNat * 6 + 1) [V.int .i64 x5]) (y2.toNat * 6 + 2) [V.int .i64 (IntKind.i64.wrap (x5 + 1))]) (y2.toNat * 6 + 3)
 [V.int .i64 (IntKind.i64.wrap (IntKind.i64.wrap (x5 + 1) + 1))]).set (y2.toNat * 6 + 4) (V.own false 5 1 x13 x14)) (y2.toNat * 6 + 5) [V.int .i64 x12])])))))))))))) else some (V.tup [V.int .i64 y1,
 V.osl y3 y4])
theorem e163l1 (k m q0 q1 : Nat) (y1 : Int) (y2 : Int) (y3 : Nat) (y4 : List V) : runLW C k 163 [0] [Ob.nrow [] 42 0 []] 0 [true, false, true] [] (m + 1) [(0, V.ref 0), (1, V.int .i64 y1), (5, V.int
 .i64 y2)] [Ob.nrow [] 42 y3 y4] = T163l1 (orc C k) k m q0 q1 y1 y2 y3 y4 := by kernel_rfl
theorem E163l1 (y1 : Int) (y2 : Int) (y3 : Nat) (y4 : List V) {r : V} (h : T163l1 (orcE C) 0 0 0 0 y1 y2 y3 y4 = some r) : loopWE C 163 [0] [Ob.nrow [] 42 0 []] 0 [true, false, true] [] [(0, V.ref 0),
 (1, V.int .i64 y1), (5, V.int .i64 y2)] [Ob.nrow [] 42 y3 y4] = some r := ofX (j := 0) (F := fun s => T163l1 (orc C s.k) s.k s.m 0 0 y1 y2 y3 y4) (fs0 fun k m => e163l1 k m 0 0 y1 y2 y3 y4) (by
  unfold T163l1
  repeat' first | with_reducible exact cC | with_reducible refine cN cQ fun _ => ?_ | with_reducible refine cT fun _ => ?_ | with_reducible refine cI fun _ => ?_ | with_reducible refine cM ?_ | with_reducible refine cF ?_ ?_ | with_reducible refine cO fun _ _ => ?_ | with_reducible refine cP fun _ _ => ?_ | with_reducible refine cN cC fun _ => ?_ | with_reducible exact cQ | exact cX0 gM) h

noncomputable def T125l1 (O : Orc) (k m q0 q1 : Nat) (y1 : Int) (y2 : Int) (y3 : Nat) (y4 : List V) : Option V := bif decide (y2 < (↑y3 : Int)) then must (inB y2 y3) (must ([V.int .u8 (IntKind.u8.wrap
 y1)].length.beq 1 && (y2.toNat * 1 + [V.int .u8 (IntKind.u8.wrap y1)].length).ble y4.length) (O.X 0 125 [0] [Ob.row 5 0 [] false] 0 [true, false, true] [] m [(0, V.ref 0), (1, V.int .i64
 (IntKind.i64.wrap (y1 + 1))), (5, V.int .i64 (IntKind.i64.wrap (y2 + 1)))] [Ob.row 5 y3 (splice y4 (y2.toNat * 1) [V.int .u8 (IntKind.u8.wrap y1)]) false])) else must (false || y4.all flatV) (some
 (V.tup [V.int .i64 y1, V.osl y3 y4]))
theorem e125l1 (k m q0 q1 : Nat) (y1 : Int) (y2 : Int) (y3 : Nat) (y4 : List V) : runLW C k 125 [0] [Ob.row 5 0 [] false] 0 [true, false, true] [] (m + 1) [(0, V.ref 0), (1, V.int .i64 y1), (5, V.int
 .i64 y2)] [Ob.row 5 y3 y4 false] = T125l1 (orc C k) k m q0 q1 y1 y2 y3 y4 := by kernel_rfl
theorem E125l1 (y1 : Int) (y2 : Int) (y3 : Nat) (y4 : List V) {r : V} (h : T125l1 (orcE C) 0 0 0 0 y1 y2 y3 y4 = some r) : loopWE C 125 [0] [Ob.row 5 0 [] false] 0 [true, false, true] [] [(0, V.ref 0),
 (1, V.int .i64 y1), (5, V.int .i64 y2)] [Ob.row 5 y3 y4 false] = some r := ofX (j := 0) (F := fun s => T125l1 (orc C s.k) s.k s.m 0 0 y1 y2 y3 y4) (fs0 fun k m => e125l1 k m 0 0 y1 y2 y3 y4) (by
  unfold T125l1
  repeat' first | with_reducible exact cC | with_reducible refine cM ?_ | with_reducible refine cF ?_ ?_ | exact cX0 gM) h

noncomputable def T209 (O : Orc) (k m q0 q1 : Nat) (y1 : Nat) (y2 : List V) (y3 : Int) : Option V := O.L 0 209 0 [true, false, true] [] k [(0, V.sl y1 y2), (1, V.int .i64 y3), (5, V.int .i64 0)] []
theorem e209 (k m q0 q1 : Nat) (y1 : Nat) (y2 : List V) (y3 : Int) : runV C (k + 1) 209 [V.sl y1 y2, V.int .i64 y3] = T209 (orc C k) k m q0 q1 y1 y2 y3 := by kernel_rfl
theorem E209 (y1 : Nat) (y2 : List V) (y3 : Int) {r : V} (h : T209 (orcE C) 0 0 0 0 y1 y2 y3 = some r) : runE C 209 [V.sl y1 y2, V.int .i64 y3] = some r := ofR (F := fun s => T209 (orc C s.k) s.k s.m 0
 0 y1 y2 y3) (fun k => e209 k k 0 0 y1 y2 y3) (by
  unfold T209
  repeat' first | with_reducible exact cC | exact cD0 gK) h

noncomputable def T202l1 (O : Orc) (k m q0 q1 : Nat) (y1 : Nat) (y2 : List V) (y3 : Int) (y4 : Nat) (y5 : List V) : Option V := bif decide (y3 < (↑y1 : Int)) then must (inB y3 y1) (asSl y2[y3.toNat *
 6]? fun x1 x2 => PI.asInt .i64 y2[y3.toNat * 6 + 1]? fun x3 => PI.asInt .i64 y2[y3.toNat * 6 + 1 + 1]? fun x4 => PI.asInt .i64 y2[y3.toNat * 6 + 1 + 1 + 1]? fun x5 => asSl y2[y3.toNat * 6 + 1 + 1 + 1
 + 1]? fun x6 x7 => PI.asInt .i64 y2[y3.toNat * 6 + 1 + 1 + 1 + 1 + 1]? fun x8 => need (O.R 0 255 [V.agg [V.sl x1 x2, V.int .i64 x3, V.int .i64 x4, V.int .i64 x5, V.sl x6 x7, V.int .i64 x8]]) fun x9 =>
 asTup (some x9) fun x10 => asOsl x10[0]? fun x11 x12 => must (x12.all flatV) (must (true && (y4 + 1).ble 140737488355328 && ((y4 + 1) * 24).ble 140737488355328) (O.L 0 202 0 [true, true, false, true]
 [] m [(0, V.sl y1 y2), (3, V.ref 0), (4, V.int .i64 (IntKind.i64.wrap (y3 + 1)))] [Ob.nrow [] 22 (y4 + 1) (y5 ++ [V.own false 5 1 x11 x12])]))) else some (V.tup [V.osl y4 y5])
theorem e202l1 (k m q0 q1 : Nat) (y1 : Nat) (y2 : List V) (y3 : Int) (y4 : Nat) (y5 : List V) : runL C k 202 0 [true, true, false, true] [] (m + 1) [(0, V.sl y1 y2), (3, V.ref 0), (4, V.int .i64 y3)]
 [Ob.nrow [] 22 y4 y5] = T202l1 (orc C k) k m q0 q1 y1 y2 y3 y4 y5 := by kernel_rfl
theorem E202l1 (y1 : Nat) (y2 : List V) (y3 : Int) (y4 : Nat) (y5 : List V) {r : V} (h : T202l1 (orcE C) 0 0 0 0 y1 y2 y3 y4 y5 = some r) : loopE C 202 0 [true, true, false, true] [] [(0, V.sl y1 y2),
 (3, V.ref 0), (4, V.int .i64 y3)] [Ob.nrow [] 22 y4 y5] = some r := ofL (j := 0) (F := fun s => T202l1 (orc C s.k) s.k s.m 0 0 y1 y2 y3 y4 y5) (fs0 fun k m => e202l1 k m 0 0 y1 y2 y3 y4 y5) (by
  unfold T202l1
  repeat' first | with_reducible exact cC | with_reducible refine cN cR fun _ => ?_ | with_reducible refine cT fun _ => ?_ | with_reducible refine cI fun _ => ?_ | with_reducible refine cM ?_ | with_reducible refine cF ?_ ?_ | with_reducible refine cL fun _ _ => ?_ | with_reducible refine cO fun _ _ => ?_ | with_reducible refine cN cC fun _ => ?_ | with_reducible exact cR | exact cD0 gM) h

noncomputable def T204 (O : Orc) (k m q0 q1 : Nat) (y1 : Nat) (y2 : List V) (y3 : Int) (y4 : Int) (y5 : Int) (y6 : Nat) (y7 : List V) (y8 : Int) : Option V := bif y3 == 0 then bif y5 == 0 then need
 (O.R 0 176 [V.sl y1 y2, V.sl 32 [V.int .u8 0, V.int .u8 0, V.int .u8 0, V.int .u8 0, V.int .u8 0, V.int .u8 0, V.int .u8 0, V.int .u8 0, V.int .u8 0, V.int .u8 0, V.int .u8 0, V.int .u8 0, V.int .u8
 0, V.int .u8 0, V.int .u8 0, V.int .u8 0, V.int .u8 0, V.int .u8 0, V.int .u8 0, V.int .u8 0, V.int .u8 0, V.int .u8 0, V.int .u8 0, V.int .u8 0, V.int .u8 0, V.int .u8 0, V.int .u8 0, V.int .u8 0,
 V.int .u8 0, V.int .u8 0, V.int .u8 0, V.int .u8 0]]) fun x1 => asTup (some x1) fun x2 => PI.asBool x2[0]? fun x3 => some (V.tup [V.bool x3]) else some (V.tup [V.bool false]) else some (V.tup [V.bool
 false])
theorem e204 (k m q0 q1 : Nat) (y1 : Nat) (y2 : List V) (y3 : Int) (y4 : Int) (y5 : Int) (y6 : Nat) (y7 : List V) (y8 : Int) : runV C (k + 1) 204 [V.agg [V.sl y1 y2, V.int .i64 y3, V.int .i64 y4, V.int
 .i64 y5, V.sl y6 y7, V.int .i64 y8]] = T204 (orc C k) k m q0 q1 y1 y2 y3 y4 y5 y6 y7 y8 := by kernel_rfl
theorem E204 (y1 : Nat) (y2 : List V) (y3 : Int) (y4 : Int) (y5 : Int) (y6 : Nat) (y7 : List V) (y8 : Int) {r : V} (h : T204 (orcE C) 0 0 0 0 y1 y2 y3 y4 y5 y6 y7 y8 = some r) : runE C 204 [V.agg [V.sl
 y1 y2, V.int .i64 y3, V.int .i64 y4, V.int .i64 y5, V.sl y6 y7, V.int .i64 y8]] = some r := ofR (F := fun s => T204 (orc C s.k) s.k s.m 0 0 y1 y2 y3 y4 y5 y6 y7 y8) (fun k => e204 k k 0 0 y1 y2 y3 y4
 y5 y6 y7 y8) (by
  unfold T204
  repeat' first | with_reducible exact cC | with_reducible refine cN cR fun _ => ?_ | with_reducible refine cT fun _ => ?_ | with_reducible refine cF ?_ ?_ | with_reducible refine cB fun _ => ?_ | with_reducible refine cN cC fun _ => ?_ | with_reducible exact cR) h

noncomputable def T127l2 (O : Orc) (k m q0 q1 : Nat) (y1 : Int) (y2 : Nat) (y3 : List V) (y4 : Int) (y5 : Nat) (y6 : List V) : Option V := bif decide (y1 < (↑y2 : Int)) then must (inB y1 y2) (asSl
 y3[y1.toNat * 6]? fun x1 x2 => PI.asInt .i64 y3[y1.toNat * 6 + 1]? fun x3 => PI.asInt .i64 y3[y1.toNat * 6 + 1 + 1]? fun x4 => PI.asInt .i64 y3[y1.toNat * 6 + 1 + 1 + 1]? fun x5 => asSl y3[y1.toNat *
 6 + 1 + 1 + 1 + 1]? fun x6 x7 => PI.asInt .i64 y3[y1.toNat * 6 + 1 + 1 + 1 + 1 + 1]? fun x8 => need (O.R 0 203 [V.agg [V.sl x1 x2, V.int .i64 x3, V.int .i64 x4, V.int .i64 x5, V.sl x6 x7, V.int .i64
 x8]]) fun x9 => asTup (some x9) fun x10 => PI.asInt .i64 x10[0]? fun x11 => bif x11 != 0 then some (V.tup [V.int .i64 x11]) else bif y1 == 0 then must (inB 0 y2) (asSl y3[0]? fun x12 x13 => PI.asInt
 .i64 y3[1]? fun x14 => PI.asInt .i64 y3[2]? fun x15 => PI.asInt .i64 y3[3]? fun x16 => asSl y3[4]? fun x17 x18 => PI.asInt .i64 y3[5]? fun x19 => need (O.R 0 204 [V.agg [V.sl x12 x13, V.int .i64 x14,
 V.int .i64 x15, V.int .i64 x16, V.sl x17 x18, V.int .i64 x19]]) fun x20 => asTup (some x20) fun x21 => PI.asBool x21[0]? fun x22 => bif !x22 then some (V.tup [V.int .i64 1]) else O.L 0 127 0 [true,
 true, true, true, true, false, true] [] m [(1, V.ptr 0 0), (3, V.ref 1), (4, V.int .i64 (IntKind.i64.wrap (y1 + 1)))] [Ob.box 81 [V.sl y2 y3, V.int .i64 y4] false, Ob.row 22 y5 y6 true]) else must
 (decide (0 ≤ y1) && decide (y1 ≤ (↑y2 : Int))) (must (decide (0 ≤ y1) && decide (y1 ≤ (↑y5 : Int))) (must (inB y1 y2) (asSl y3[y1.toNat * 6]? fun x23 x24 => PI.asInt .i64 y3[y1.toNat * 6 + 1]? fun x25
 => PI.asInt .i64 y3[y1.toNat * 6 + 1 + 1]? fun x26 => PI.asInt .i64 y3[y1.toNat * 6 + 1 + 1 + 1]? fun x27 => asSl y3[y1.toNat * 6 + 1 + 1 + 1 + 1]? fun x28 x29 => PI.asInt .i64 y3[y1.toNat * 6 + 1 + 1
 + 1 + 1 + 1]? fun x30 => need (O.R 0 205 [V.sl (y1.toNat - 0) (List.take ((y1.toNat - 0) * 6) (List.drop 0 y3)), V.sl (y1.toNat - 0) (List.take ((y1.toNat - 0) * 1) (List.drop 0 y6)), V.agg [V.sl x23
 x24, V.int .i64 x25, V.int .i64 x26, V.int .i64 x27, V.sl x28 x29, V.int .i64 x30]]) fun x31 => asTup (some x31) fun x32 => PI.asInt .i64 x32[0]? fun x33 => bif x33 != 0 then some (V.tup [V.int .i64
 x33]) else O.L 0 127 0 [true, true, true, true, true, false, true] [] m [(1, V.ptr 0 0), (3, V.ref 1), (4, V.int .i64 (IntKind.i64.wrap (y1 + 1)))] [Ob.box 81 [V.sl y2 y3, V.int .i64 y4] false, Ob.row
 22 y5 y6 true])))) else some (V.tup [V.int .i64 0])
theorem e127l2 (k m q0 q1 : Nat) (y1 : Int) (y2 : Nat) (y3 : List V) (y4 : Int) (y5 : Nat) (y6 : List V) : runL C k 127 0 [true, true, true, true, true, false, true] [] (m + 1) [(1, V.ptr 0 0), (3,
 V.ref 1), (4, V.int .i64 y1)] [Ob.box 81 [V.sl y2 y3, V.int .i64 y4] false, Ob.row 22 y5 y6 true] = T127l2 (orc C k) k m q0 q1 y1 y2 y3 y4 y5 y6 := by kernel_rfl
theorem E127l2 (y1 : Int) (y2 : Nat) (y3 : List V) (y4 : Int) (y5 : Nat) (y6 : List V) {r : V} (h : T127l2 (orcE C) 0 0 0 0 y1 y2 y3 y4 y5 y6 = some r) : loopE C 127 0 [true, true, true, true, true,
 false, true] [] [(1, V.ptr 0 0), (3, V.ref 1), (4, V.int .i64 y1)] [Ob.box 81 [V.sl y2 y3, V.int .i64 y4] false, Ob.row 22 y5 y6 true] = some r := ofL (j := 0) (F := fun s => T127l2 (orc C s.k) s.k
 s.m 0 0 y1 y2 y3 y4 y5 y6) (fs0 fun k m => e127l2 k m 0 0 y1 y2 y3 y4 y5 y6) (by
  unfold T127l2
  repeat' first | with_reducible exact cC | with_reducible refine cN cR fun _ => ?_ | with_reducible refine cT fun _ => ?_ | with_reducible refine cI fun _ => ?_ | with_reducible refine cM ?_ | with_reducible refine cF ?_ ?_ | with_reducible refine cB fun _ => ?_ | with_reducible refine cL fun _ _ => ?_ | with_reducible refine cN cC fun _ => ?_ | with_reducible exact cR | exact cD0 gM) h

noncomputable def T21 (O : Orc) (k m q0 q1 : Nat) (y1 : Nat) (y2 : List V) (y3 : Int) (y4 : Int) (y5 : Int) (y6 : Nat) (y7 : List V) (y8 : Int) : Option V := bif (↑y1 : Int) != 32 then some (V.tup
 [V.int .i64 1]) else bif (↑y6 : Int) != 32 then some (V.tup [V.int .i64 1]) else need (O.R 0 103 [V.int .i64 y3, V.int .i64 0, V.int .i64 1000000]) fun x1 => asTup (some x1) fun x2 => PI.asBool x2[0]?
 fun x3 => bif !x3 then some (V.tup [V.int .i64 3]) else need (O.R 0 103 [V.int .i64 y4, V.int .i64 0, V.int .i64 1099511627776]) fun x4 => asTup (some x4) fun x5 => PI.asBool x5[0]? fun x6 => bif !x6
 then some (V.tup [V.int .i64 3]) else need (O.R 0 103 [V.int .i64 y5, V.int .i64 0, V.int .i64 40]) fun x7 => asTup (some x7) fun x8 => PI.asBool x8[0]? fun x9 => bif !x9 then some (V.tup [V.int .i64
 3]) else need (O.R 0 103 [V.int .i64 y8, V.int .i64 0, V.int .i64 2199023255552]) fun x10 => asTup (some x10) fun x11 => PI.asBool x11[0]? fun x12 => bif !x12 then some (V.tup [V.int .i64 3]) else
 some (V.tup [V.int .i64 0])
theorem e21 (k m q0 q1 : Nat) (y1 : Nat) (y2 : List V) (y3 : Int) (y4 : Int) (y5 : Int) (y6 : Nat) (y7 : List V) (y8 : Int) : runV C (k + 1) 21 [V.agg [V.sl y1 y2, V.int .i64 y3, V.int .i64 y4, V.int
 .i64 y5, V.sl y6 y7, V.int .i64 y8]] = T21 (orc C k) k m q0 q1 y1 y2 y3 y4 y5 y6 y7 y8 := by kernel_rfl
theorem E21 (y1 : Nat) (y2 : List V) (y3 : Int) (y4 : Int) (y5 : Int) (y6 : Nat) (y7 : List V) (y8 : Int) {r : V} (h : T21 (orcE C) 0 0 0 0 y1 y2 y3 y4 y5 y6 y7 y8 = some r) : runE C 21 [V.agg [V.sl y1
 y2, V.int .i64 y3, V.int .i64 y4, V.int .i64 y5, V.sl y6 y7, V.int .i64 y8]] = some r := ofR (F := fun s => T21 (orc C s.k) s.k s.m 0 0 y1 y2 y3 y4 y5 y6 y7 y8) (fun k => e21 k k 0 0 y1 y2 y3 y4 y5 y6
 y7 y8) (by
  unfold T21
  repeat' first | with_reducible exact cC | with_reducible refine cN cR fun _ => ?_ | with_reducible refine cT fun _ => ?_ | with_reducible refine cF ?_ ?_ | with_reducible refine cB fun _ => ?_ | with_reducible refine cN cC fun _ => ?_ | with_reducible exact cR) h

noncomputable def T256 (O : Orc) (k m q0 q1 : Nat) (y1 : Nat) (y2 : List V) (y3 : Int) (y4 : Int) (y5 : Int) (y6 : Nat) (y7 : List V) (y8 : Int) : Option V := need (O.R 0 258 [V.agg [V.sl y1 y2, V.int
 .i64 y3, V.int .i64 y4, V.int .i64 y5, V.sl y6 y7, V.int .i64 y8]]) fun x1 => asTup (some x1) fun x2 => asOsl x2[0]? fun x3 x4 => need (O.R 0 186 [V.sl x3 x4]) fun x5 => asTup (some x5) fun x6 =>
 PI.asInt .i64 x6[0]? fun x7 => some (V.tup [V.bool (decide (x7 ≥ y5))])
theorem e256 (k m q0 q1 : Nat) (y1 : Nat) (y2 : List V) (y3 : Int) (y4 : Int) (y5 : Int) (y6 : Nat) (y7 : List V) (y8 : Int) : runV C (k + 1) 256 [V.agg [V.sl y1 y2, V.int .i64 y3, V.int .i64 y4, V.int
 .i64 y5, V.sl y6 y7, V.int .i64 y8]] = T256 (orc C k) k m q0 q1 y1 y2 y3 y4 y5 y6 y7 y8 := by kernel_rfl
theorem E256 (y1 : Nat) (y2 : List V) (y3 : Int) (y4 : Int) (y5 : Int) (y6 : Nat) (y7 : List V) (y8 : Int) {r : V} (h : T256 (orcE C) 0 0 0 0 y1 y2 y3 y4 y5 y6 y7 y8 = some r) : runE C 256 [V.agg [V.sl
 y1 y2, V.int .i64 y3, V.int .i64 y4, V.int .i64 y5, V.sl y6 y7, V.int .i64 y8]] = some r := ofR (F := fun s => T256 (orc C s.k) s.k s.m 0 0 y1 y2 y3 y4 y5 y6 y7 y8) (fun k => e256 k k 0 0 y1 y2 y3 y4
 y5 y6 y7 y8) (by
  unfold T256
  repeat' first | with_reducible exact cC | with_reducible refine cN cR fun _ => ?_ | with_reducible refine cT fun _ => ?_ | with_reducible refine cI fun _ => ?_ | with_reducible refine cO fun _ _ => ?_ | with_reducible refine cN cC fun _ => ?_ | with_reducible exact cR) h

noncomputable def T258 (O : Orc) (k m q0 q1 : Nat) (y1 : Nat) (y2 : List V) (y3 : Int) (y4 : Int) (y5 : Int) (y6 : Nat) (y7 : List V) (y8 : Int) : Option V := need (O.R 0 112 [V.agg [V.sl y1 y2, V.int
 .i64 y3, V.int .i64 y4, V.int .i64 y5, V.sl y6 y7, V.int .i64 y8]]) fun x1 => asTup (some x1) fun x2 => asSl x2[0]? fun x3 x4 => need (O.R 0 111 [V.sl x3 x4]) fun x5 => asTup (some x5) fun x6 => asOsl
 x6[0]? fun x7 x8 => need (O.R 0 188 [V.int .i64 y8]) fun x9 => asTup (some x9) fun x10 => asSl x10[0]? fun x11 x12 => must (decide (x12.length = x11 * 1)) (must (true && (x7 + x11).ble 140737488355328
 && ((x7 + x11) * 1).ble 140737488355328) (need (O.R 0 187 [V.sl (x7 + x11) (x8 ++ x12)]) fun x13 => asTup (some x13) fun x14 => asOsl x14[0]? fun x15 x16 => must (false || x16.all flatV) (some (V.tup
 [V.osl x15 x16]))))
theorem e258 (k m q0 q1 : Nat) (y1 : Nat) (y2 : List V) (y3 : Int) (y4 : Int) (y5 : Int) (y6 : Nat) (y7 : List V) (y8 : Int) : runV C (k + 1) 258 [V.agg [V.sl y1 y2, V.int .i64 y3, V.int .i64 y4, V.int
 .i64 y5, V.sl y6 y7, V.int .i64 y8]] = T258 (orc C k) k m q0 q1 y1 y2 y3 y4 y5 y6 y7 y8 := by kernel_rfl
theorem E258 (y1 : Nat) (y2 : List V) (y3 : Int) (y4 : Int) (y5 : Int) (y6 : Nat) (y7 : List V) (y8 : Int) {r : V} (h : T258 (orcE C) 0 0 0 0 y1 y2 y3 y4 y5 y6 y7 y8 = some r) : runE C 258 [V.agg [V.sl
 y1 y2, V.int .i64 y3, V.int .i64 y4, V.int .i64 y5, V.sl y6 y7, V.int .i64 y8]] = some r := ofR (F := fun s => T258 (orc C s.k) s.k s.m 0 0 y1 y2 y3 y4 y5 y6 y7 y8) (fun k => e258 k k 0 0 y1 y2 y3 y4
 y5 y6 y7 y8) (by
  unfold T258
  repeat' first | with_reducible exact cC | with_reducible refine cN cR fun _ => ?_ | with_reducible refine cT fun _ => ?_ | with_reducible refine cM ?_ | with_reducible refine cL fun _ _ => ?_ | with_reducible refine cO fun _ _ => ?_ | with_reducible refine cN cC fun _ => ?_ | with_reducible exact cR) h

noncomputable def T257 (O : Orc) (k m q0 q1 : Nat) (y1 : Nat) (y2 : List V) (y3 : Nat) (y4 : List V) : Option V := O.L 0 257 0 [true, false, true] [] k [(0, V.sl y1 y2), (1, V.sl y3 y4), (5, V.int .i64
 0)] []
theorem e257 (k m q0 q1 : Nat) (y1 : Nat) (y2 : List V) (y3 : Nat) (y4 : List V) : runV C (k + 1) 257 [V.sl y1 y2, V.sl y3 y4] = T257 (orc C k) k m q0 q1 y1 y2 y3 y4 := by kernel_rfl
theorem E257 (y1 : Nat) (y2 : List V) (y3 : Nat) (y4 : List V) {r : V} (h : T257 (orcE C) 0 0 0 0 y1 y2 y3 y4 = some r) : runE C 257 [V.sl y1 y2, V.sl y3 y4] = some r := ofR (F := fun s => T257 (orc C
 s.k) s.k s.m 0 0 y1 y2 y3 y4) (fun k => e257 k k 0 0 y1 y2 y3 y4) (by
  unfold T257
  repeat' first | with_reducible exact cC | exact cD0 gK) h

noncomputable def T260 (O : Orc) (k m q0 q1 : Nat) (y1 : Nat) (y2 : List V) (y3 : Nat) (y4 : List V) (y5 : Int) : Option V := need (O.R 0 294 [V.sl y1 y2, V.sl y3 y4, V.int .i64 y5]) fun x1 => asTup
 (some x1) fun x2 => asSl x2[0]? fun x3 x4 => O.L 0 260 0 [true, true, true, false, true] [] k [(0, V.sl y1 y2), (7, V.sl x3 x4), (8, V.ref 0), (9, V.int .i64 0)] [Ob.row 42 0 [] false]
theorem e260 (k m q0 q1 : Nat) (y1 : Nat) (y2 : List V) (y3 : Nat) (y4 : List V) (y5 : Int) : runV C (k + 1) 260 [V.sl y1 y2, V.sl y3 y4, V.int .i64 y5] = T260 (orc C k) k m q0 q1 y1 y2 y3 y4 y5 := by
 kernel_rfl
theorem E260 (y1 : Nat) (y2 : List V) (y3 : Nat) (y4 : List V) (y5 : Int) {r : V} (h : T260 (orcE C) 0 0 0 0 y1 y2 y3 y4 y5 = some r) : runE C 260 [V.sl y1 y2, V.sl y3 y4, V.int .i64 y5] = some r :=
 ofR (F := fun s => T260 (orc C s.k) s.k s.m 0 0 y1 y2 y3 y4 y5) (fun k => e260 k k 0 0 y1 y2 y3 y4 y5) (by
  unfold T260
  repeat' first | with_reducible exact cC | with_reducible refine cN cR fun _ => ?_ | with_reducible refine cT fun _ => ?_ | with_reducible refine cL fun _ _ => ?_ | with_reducible refine cN cC fun _ => ?_ | with_reducible exact cR | exact cD0 gK) h

noncomputable def T259 (O : Orc) (k m q0 q1 : Nat) (y1 : Nat) (y2 : List V) : Option V := must (inB (IntKind.i64.wrap ((↑y1 : Int) - 1)) y1) (asSl y2[(IntKind.i64.wrap ((↑y1 : Int) - 1)).toNat * 6]?
 fun x1 x2 => PI.asInt .i64 y2[(IntKind.i64.wrap ((↑y1 : Int) - 1)).toNat * 6 + 1]? fun x3 => PI.asInt .i64 y2[(IntKind.i64.wrap ((↑y1 : Int) - 1)).toNat * 6 + 1 + 1]? fun x4 => PI.asInt .i64
 y2[(IntKind.i64.wrap ((↑y1 : Int) - 1)).toNat * 6 + 1 + 1 + 1]? fun x5 => asSl y2[(IntKind.i64.wrap ((↑y1 : Int) - 1)).toNat * 6 + 1 + 1 + 1 + 1]? fun x6 x7 => PI.asInt .i64 y2[(IntKind.i64.wrap ((↑y1
 : Int) - 1)).toNat * 6 + 1 + 1 + 1 + 1 + 1]? fun x8 => bif decide ((↑y1 : Int) ≤ 4) then some (V.tup [V.int .i64 x5]) else bif x3.tmod 4 != 0 then some (V.tup [V.int .i64 x5]) else must (inB
 (IntKind.i64.wrap (IntKind.i64.wrap ((↑y1 : Int) - 1) - 4)) y1) (PI.asInt .i64 y2[(IntKind.i64.wrap (IntKind.i64.wrap ((↑y1 : Int) - 1) - 4)).toNat * 6 + 2]? fun x9 => bif decide (IntKind.i64.wrap (x4
 - x9) < 20) then need (O.R 0 284 [V.int .i64 40, V.int .i64 (IntKind.i64.wrap (x5 + 1))]) fun x10 => asTup (some x10) fun x11 => PI.asInt .i64 x11[0]? fun x12 => some (V.tup [V.int .i64 x12]) else bif
 decide (IntKind.i64.wrap (x4 - x9) > 80) then need (O.R 0 293 [V.int .i64 0, V.int .i64 (IntKind.i64.wrap (x5 - 1))]) fun x13 => asTup (some x13) fun x14 => PI.asInt .i64 x14[0]? fun x15 => some
 (V.tup [V.int .i64 x15]) else some (V.tup [V.int .i64 x5])))
theorem e259 (k m q0 q1 : Nat) (y1 : Nat) (y2 : List V) : runV C (k + 1) 259 [V.sl y1 y2] = T259 (orc C k) k m q0 q1 y1 y2 := by kernel_rfl
theorem E259 (y1 : Nat) (y2 : List V) {r : V} (h : T259 (orcE C) 0 0 0 0 y1 y2 = some r) : runE C 259 [V.sl y1 y2] = some r := ofR (F := fun s => T259 (orc C s.k) s.k s.m 0 0 y1 y2) (fun k => e259 k k
 0 0 y1 y2) (by
  unfold T259
  repeat' first | with_reducible exact cC | with_reducible refine cN cR fun _ => ?_ | with_reducible refine cT fun _ => ?_ | with_reducible refine cI fun _ => ?_ | with_reducible refine cM ?_ | with_reducible refine cF ?_ ?_ | with_reducible refine cL fun _ _ => ?_ | with_reducible refine cN cC fun _ => ?_ | with_reducible exact cR) h

noncomputable def T207 (O : Orc) (k m q0 q1 : Nat) (y1 : Nat) (y2 : List V) (y3 : Int) (y4 : Int) (y5 : Int) (y6 : Nat) (y7 : List V) (y8 : Int) : Option V := bif y3 == 0 then bif y5 == 0 then need
 (O.R 0 107 [V.sl y1 y2, V.sl 32 [V.int .u8 0, V.int .u8 0, V.int .u8 0, V.int .u8 0, V.int .u8 0, V.int .u8 0, V.int .u8 0, V.int .u8 0, V.int .u8 0, V.int .u8 0, V.int .u8 0, V.int .u8 0, V.int .u8
 0, V.int .u8 0, V.int .u8 0, V.int .u8 0, V.int .u8 0, V.int .u8 0, V.int .u8 0, V.int .u8 0, V.int .u8 0, V.int .u8 0, V.int .u8 0, V.int .u8 0, V.int .u8 0, V.int .u8 0, V.int .u8 0, V.int .u8 0,
 V.int .u8 0, V.int .u8 0, V.int .u8 0, V.int .u8 0]]) fun x1 => asTup (some x1) fun x2 => PI.asBool x2[0]? fun x3 => some (V.tup [V.bool x3]) else some (V.tup [V.bool false]) else some (V.tup [V.bool
 false])
theorem e207 (k m q0 q1 : Nat) (y1 : Nat) (y2 : List V) (y3 : Int) (y4 : Int) (y5 : Int) (y6 : Nat) (y7 : List V) (y8 : Int) : runV C (k + 1) 207 [V.agg [V.sl y1 y2, V.int .i64 y3, V.int .i64 y4, V.int
 .i64 y5, V.sl y6 y7, V.int .i64 y8]] = T207 (orc C k) k m q0 q1 y1 y2 y3 y4 y5 y6 y7 y8 := by kernel_rfl
theorem E207 (y1 : Nat) (y2 : List V) (y3 : Int) (y4 : Int) (y5 : Int) (y6 : Nat) (y7 : List V) (y8 : Int) {r : V} (h : T207 (orcE C) 0 0 0 0 y1 y2 y3 y4 y5 y6 y7 y8 = some r) : runE C 207 [V.agg [V.sl
 y1 y2, V.int .i64 y3, V.int .i64 y4, V.int .i64 y5, V.sl y6 y7, V.int .i64 y8]] = some r := ofR (F := fun s => T207 (orc C s.k) s.k s.m 0 0 y1 y2 y3 y4 y5 y6 y7 y8) (fun k => e207 k k 0 0 y1 y2 y3 y4
 y5 y6 y7 y8) (by
  unfold T207
  repeat' first | with_reducible exact cC | with_reducible refine cN cR fun _ => ?_ | with_reducible refine cT fun _ => ?_ | with_reducible refine cF ?_ ?_ | with_reducible refine cB fun _ => ?_ | with_reducible refine cN cC fun _ => ?_ | with_reducible exact cR) h

noncomputable def T99 (O : Orc) (k m q0 q1 : Nat) (y1 : Nat) (y2 : List V) (y3 : Int) (y4 : Int) (y5 : Int) (y6 : Nat) (y7 : List V) (y8 : Int) : Option V := need (O.R 0 180 [V.sl 2 [V.sl y1 y2, V.sl
 y6 y7]]) fun x1 => asTup (some x1) fun x2 => PI.asBool x2[0]? fun x3 => bif !x3 then some (V.tup [V.int .i64 1]) else need (O.R 0 92 [V.int .i64 y3, V.int .i64 0, V.int .i64 1000000]) fun x4 => asTup
 (some x4) fun x5 => PI.asBool x5[0]? fun x6 => bif !x6 then some (V.tup [V.int .i64 3]) else need (O.R 0 92 [V.int .i64 y4, V.int .i64 0, V.int .i64 1099511627776]) fun x7 => asTup (some x7) fun x8 =>
 PI.asBool x8[0]? fun x9 => bif !x9 then some (V.tup [V.int .i64 3]) else need (O.R 0 181 [V.int .i64 y5]) fun x10 => asTup (some x10) fun x11 => PI.asBool x11[0]? fun x12 => bif !x12 then some (V.tup
 [V.int .i64 3]) else need (O.R 0 92 [V.int .i64 y8, V.int .i64 0, V.int .i64 2199023255552]) fun x13 => asTup (some x13) fun x14 => PI.asBool x14[0]? fun x15 => bif !x15 then some (V.tup [V.int .i64
 3]) else some (V.tup [V.int .i64 0])
theorem e99 (k m q0 q1 : Nat) (y1 : Nat) (y2 : List V) (y3 : Int) (y4 : Int) (y5 : Int) (y6 : Nat) (y7 : List V) (y8 : Int) : runV C (k + 1) 99 [V.agg [V.sl y1 y2, V.int .i64 y3, V.int .i64 y4, V.int
 .i64 y5, V.sl y6 y7, V.int .i64 y8]] = T99 (orc C k) k m q0 q1 y1 y2 y3 y4 y5 y6 y7 y8 := by kernel_rfl
theorem E99 (y1 : Nat) (y2 : List V) (y3 : Int) (y4 : Int) (y5 : Int) (y6 : Nat) (y7 : List V) (y8 : Int) {r : V} (h : T99 (orcE C) 0 0 0 0 y1 y2 y3 y4 y5 y6 y7 y8 = some r) : runE C 99 [V.agg [V.sl y1
 y2, V.int .i64 y3, V.int .i64 y4, V.int .i64 y5, V.sl y6 y7, V.int .i64 y8]] = some r := ofR (F := fun s => T99 (orc C s.k) s.k s.m 0 0 y1 y2 y3 y4 y5 y6 y7 y8) (fun k => e99 k k 0 0 y1 y2 y3 y4 y5 y6
 y7 y8) (by
  unfold T99
  repeat' first | with_reducible exact cC | with_reducible refine cN cR fun _ => ?_ | with_reducible refine cT fun _ => ?_ | with_reducible refine cF ?_ ?_ | with_reducible refine cB fun _ => ?_ | with_reducible refine cN cC fun _ => ?_ | with_reducible exact cR) h

noncomputable def T261 (O : Orc) (k m q0 q1 : Nat) (y1 : Nat) (y2 : List V) (y3 : Int) (y4 : Int) (y5 : Int) (y6 : Nat) (y7 : List V) (y8 : Int) : Option V := need (O.R 0 104 [V.agg [V.sl y1 y2, V.int
 .i64 y3, V.int .i64 y4, V.int .i64 y5, V.sl y6 y7, V.int .i64 y8]]) fun x1 => asTup (some x1) fun x2 => asSl x2[0]? fun x3 x4 => need (O.R 0 27 [V.sl x3 x4]) fun x5 => asTup (some x5) fun x6 =>
 PI.asInt .i64 x6[0]? fun x7 => some (V.tup [V.bool (decide (x7 ≥ y5))])
theorem e261 (k m q0 q1 : Nat) (y1 : Nat) (y2 : List V) (y3 : Int) (y4 : Int) (y5 : Int) (y6 : Nat) (y7 : List V) (y8 : Int) : runV C (k + 1) 261 [V.agg [V.sl y1 y2, V.int .i64 y3, V.int .i64 y4, V.int
 .i64 y5, V.sl y6 y7, V.int .i64 y8]] = T261 (orc C k) k m q0 q1 y1 y2 y3 y4 y5 y6 y7 y8 := by kernel_rfl
theorem E261 (y1 : Nat) (y2 : List V) (y3 : Int) (y4 : Int) (y5 : Int) (y6 : Nat) (y7 : List V) (y8 : Int) {r : V} (h : T261 (orcE C) 0 0 0 0 y1 y2 y3 y4 y5 y6 y7 y8 = some r) : runE C 261 [V.agg [V.sl
 y1 y2, V.int .i64 y3, V.int .i64 y4, V.int .i64 y5, V.sl y6 y7, V.int .i64 y8]] = some r := ofR (F := fun s => T261 (orc C s.k) s.k s.m 0 0 y1 y2 y3 y4 y5 y6 y7 y8) (fun k => e261 k k 0 0 y1 y2 y3 y4
 y5 y6 y7 y8) (by
  unfold T261
  repeat' first | with_reducible exact cC | with_reducible refine cN cR fun _ => ?_ | with_reducible refine cT fun _ => ?_ | with_reducible refine cI fun _ => ?_ | with_reducible refine cL fun _ _ => ?_ | with_reducible refine cN cC fun _ => ?_ | with_reducible exact cR) h

noncomputable def T104 (O : Orc) (k m q0 q1 : Nat) (y1 : Nat) (y2 : List V) (y3 : Int) (y4 : Int) (y5 : Int) (y6 : Nat) (y7 : List V) (y8 : Int) : Option V := need (O.R 0 101 [V.agg [V.sl y1 y2, V.int
 .i64 y3, V.int .i64 y4, V.int .i64 y5, V.sl y6 y7, V.int .i64 y8]]) fun x1 => asTup (some x1) fun x2 => asSl x2[0]? fun x3 x4 => need (O.R 0 100 [V.sl x3 x4]) fun x5 => asTup (some x5) fun x6 => asSl
 x6[0]? fun x7 x8 => need (O.R 0 102 [V.int .i64 y8]) fun x9 => asTup (some x9) fun x10 => asSl x10[0]? fun x11 x12 => need (O.R 0 183 [V.sl 2 [V.sl x7 x8, V.sl x11 x12]]) fun x13 => asTup (some x13)
 fun x14 => asSl x14[0]? fun x15 x16 => some (V.tup [V.sl x15 x16])
theorem e104 (k m q0 q1 : Nat) (y1 : Nat) (y2 : List V) (y3 : Int) (y4 : Int) (y5 : Int) (y6 : Nat) (y7 : List V) (y8 : Int) : runV C (k + 1) 104 [V.agg [V.sl y1 y2, V.int .i64 y3, V.int .i64 y4, V.int
 .i64 y5, V.sl y6 y7, V.int .i64 y8]] = T104 (orc C k) k m q0 q1 y1 y2 y3 y4 y5 y6 y7 y8 := by kernel_rfl
theorem E104 (y1 : Nat) (y2 : List V) (y3 : Int) (y4 : Int) (y5 : Int) (y6 : Nat) (y7 : List V) (y8 : Int) {r : V} (h : T104 (orcE C) 0 0 0 0 y1 y2 y3 y4 y5 y6 y7 y8 = some r) : runE C 104 [V.agg [V.sl
 y1 y2, V.int .i64 y3, V.int .i64 y4, V.int .i64 y5, V.sl y6 y7, V.int .i64 y8]] = some r := ofR (F := fun s => T104 (orc C s.k) s.k s.m 0 0 y1 y2 y3 y4 y5 y6 y7 y8) (fun k => e104 k k 0 0 y1 y2 y3 y4
 y5 y6 y7 y8) (by
  unfold T104
  repeat' first | with_reducible exact cC | with_reducible refine cN cR fun _ => ?_ | with_reducible refine cT fun _ => ?_ | with_reducible refine cL fun _ _ => ?_ | with_reducible refine cN cC fun _ => ?_ | with_reducible exact cR) h

noncomputable def T295 (O : Orc) (k m q0 q1 : Nat) (y1 : Nat) (y2 : List V) (y3 : Nat) (y4 : List V) : Option V := O.L 0 295 0 [true, false, true] [] k [(0, V.sl y1 y2), (1, V.fn 263 [V.pin [V.sl y3
 y4] 0]), (7, V.int .i64 (↑y1 : Int)), (8, V.int .i64 0)] []
theorem e295 (k m q0 q1 : Nat) (y1 : Nat) (y2 : List V) (y3 : Nat) (y4 : List V) : runV C (k + 1) 295 [V.sl y1 y2, V.fn 263 [V.pin [V.sl y3 y4] 0]] = T295 (orc C k) k m q0 q1 y1 y2 y3 y4 := by
 kernel_rfl
theorem E295 (y1 : Nat) (y2 : List V) (y3 : Nat) (y4 : List V) {r : V} (h : T295 (orcE C) 0 0 0 0 y1 y2 y3 y4 = some r) : runE C 295 [V.sl y1 y2, V.fn 263 [V.pin [V.sl y3 y4] 0]] = some r := ofR (F :=
 fun s => T295 (orc C s.k) s.k s.m 0 0 y1 y2 y3 y4) (fun k => e295 k k 0 0 y1 y2 y3 y4) (by
  unfold T295
  repeat' first | with_reducible exact cC | exact cD0 gK) h

noncomputable def T264 (O : Orc) (k m q0 q1 : Nat) (y1 : Nat) (y2 : List V) (y3 : Nat) (y4 : List V) (y5 : Int) (y6 : Int) (y7 : Int) (y8 : Nat) (y9 : List V) (y10 : Int) : Option V := need (O.R 0 295
 [V.sl y1 y2, V.fn 296 [V.pin [V.sl y3 y4, V.int .i64 y5, V.int .i64 y6, V.int .i64 y7, V.sl y8 y9, V.int .i64 y10] 0]]) fun x1 => asTup (some x1) fun x2 => PI.asInt .i64 x2[0]? fun x3 => some (V.tup
 [V.int .i64 x3])
theorem e264 (k m q0 q1 : Nat) (y1 : Nat) (y2 : List V) (y3 : Nat) (y4 : List V) (y5 : Int) (y6 : Int) (y7 : Int) (y8 : Nat) (y9 : List V) (y10 : Int) : runV C (k + 1) 264 [V.sl y1 y2, V.agg [V.sl y3
 y4, V.int .i64 y5, V.int .i64 y6, V.int .i64 y7, V.sl y8 y9, V.int .i64 y10]] = T264 (orc C k) k m q0 q1 y1 y2 y3 y4 y5 y6 y7 y8 y9 y10 := by kernel_rfl
theorem E264 (y1 : Nat) (y2 : List V) (y3 : Nat) (y4 : List V) (y5 : Int) (y6 : Int) (y7 : Int) (y8 : Nat) (y9 : List V) (y10 : Int) {r : V} (h : T264 (orcE C) 0 0 0 0 y1 y2 y3 y4 y5 y6 y7 y8 y9 y10 =
 some r) : runE C 264 [V.sl y1 y2, V.agg [V.sl y3 y4, V.int .i64 y5, V.int .i64 y6, V.int .i64 y7, V.sl y8 y9, V.int .i64 y10]] = some r := ofR (F := fun s => T264 (orc C s.k) s.k s.m 0 0 y1 y2 y3 y4
 y5 y6 y7 y8 y9 y10) (fun k => e264 k k 0 0 y1 y2 y3 y4 y5 y6 y7 y8 y9 y10) (by
  unfold T264
  repeat' first | with_reducible exact cC | with_reducible refine cN cR fun _ => ?_ | with_reducible refine cT fun _ => ?_ | with_reducible refine cI fun _ => ?_ | with_reducible refine cN cC fun _ => ?_ | with_reducible exact cR) h

noncomputable def T267 (O : Orc) (k m q0 q1 : Nat) (y1 : Nat) (y2 : List V) (y3 : Int) : Option V := O.L 0 267 0 [true, true] [] k [(0, V.sl y1 y2), (1, V.int .i64 y3), (5, V.ref 0)] [Ob.row 2 0 []
 false]
theorem e267 (k m q0 q1 : Nat) (y1 : Nat) (y2 : List V) (y3 : Int) : runV C (k + 1) 267 [V.sl y1 y2, V.int .i64 y3] = T267 (orc C k) k m q0 q1 y1 y2 y3 := by kernel_rfl
theorem E267 (y1 : Nat) (y2 : List V) (y3 : Int) {r : V} (h : T267 (orcE C) 0 0 0 0 y1 y2 y3 = some r) : runE C 267 [V.sl y1 y2, V.int .i64 y3] = some r := ofR (F := fun s => T267 (orc C s.k) s.k s.m 0
 0 y1 y2 y3) (fun k => e267 k k 0 0 y1 y2 y3) (by
  unfold T267
  repeat' first | with_reducible exact cC | exact cD0 gK) h

noncomputable def T266 (O : Orc) (k m q0 q1 : Nat) (y1 : Nat) (y2 : List V) (y3 : Nat) (y4 : List V) : Option V := O.L 0 266 0 [true, true, false, true] [] k [(0, V.sl y1 y2), (5, V.ref 0), (9, V.sl y3
 y4), (10, V.int .i64 (↑y3 : Int)), (11, V.int .i64 0)] [Ob.row 42 0 [] false]
theorem e266 (k m q0 q1 : Nat) (y1 : Nat) (y2 : List V) (y3 : Nat) (y4 : List V) : runV C (k + 1) 266 [V.sl y1 y2, V.sl y3 y4] = T266 (orc C k) k m q0 q1 y1 y2 y3 y4 := by kernel_rfl
theorem E266 (y1 : Nat) (y2 : List V) (y3 : Nat) (y4 : List V) {r : V} (h : T266 (orcE C) 0 0 0 0 y1 y2 y3 y4 = some r) : runE C 266 [V.sl y1 y2, V.sl y3 y4] = some r := ofR (F := fun s => T266 (orc C
 s.k) s.k s.m 0 0 y1 y2 y3 y4) (fun k => e266 k k 0 0 y1 y2 y3 y4) (by
  unfold T266
  repeat' first | with_reducible exact cC | exact cD0 gK) h

noncomputable def T265 (O : Orc) (k m q0 q1 : Nat) (y1 : Nat) (y2 : List V) : Option V := must (inB (IntKind.i64.wrap ((↑y1 : Int) - 1)) y1) (asSl y2[(IntKind.i64.wrap ((↑y1 : Int) - 1)).toNat * 6]?
 fun x1 x2 => PI.asInt .i64 y2[(IntKind.i64.wrap ((↑y1 : Int) - 1)).toNat * 6 + 1]? fun x3 => PI.asInt .i64 y2[(IntKind.i64.wrap ((↑y1 : Int) - 1)).toNat * 6 + 1 + 1]? fun x4 => PI.asInt .i64
 y2[(IntKind.i64.wrap ((↑y1 : Int) - 1)).toNat * 6 + 1 + 1 + 1]? fun x5 => asSl y2[(IntKind.i64.wrap ((↑y1 : Int) - 1)).toNat * 6 + 1 + 1 + 1 + 1]? fun x6 x7 => PI.asInt .i64 y2[(IntKind.i64.wrap ((↑y1
 : Int) - 1)).toNat * 6 + 1 + 1 + 1 + 1 + 1]? fun x8 => bif decide ((↑y1 : Int) ≤ 4) then some (V.tup [V.int .i64 x5]) else bif x3.tmod 4 != 0 then some (V.tup [V.int .i64 x5]) else must (inB
 (IntKind.i64.wrap (IntKind.i64.wrap ((↑y1 : Int) - 1) - 4)) y1) (PI.asInt .i64 y2[(IntKind.i64.wrap (IntKind.i64.wrap ((↑y1 : Int) - 1) - 4)).toNat * 6 + 2]? fun x9 => bif decide (IntKind.i64.wrap (x4
 - x9) < 20) then some (V.tup [V.int .i64 (if 40 < IntKind.i64.wrap (x5 + 1) then 40 else IntKind.i64.wrap (x5 + 1))]) else bif decide (IntKind.i64.wrap (x4 - x9) > 80) then some (V.tup [V.int .i64 (if
 0 > IntKind.i64.wrap (x5 - 1) then 0 else IntKind.i64.wrap (x5 - 1))]) else some (V.tup [V.int .i64 x5])))
theorem e265 (k m q0 q1 : Nat) (y1 : Nat) (y2 : List V) : runV C (k + 1) 265 [V.sl y1 y2] = T265 (orc C k) k m q0 q1 y1 y2 := by kernel_rfl
theorem E265 (y1 : Nat) (y2 : List V) {r : V} (h : T265 (orcE C) 0 0 0 0 y1 y2 = some r) : runE C 265 [V.sl y1 y2] = some r := ofR (F := fun s => T265 (orc C s.k) s.k s.m 0 0 y1 y2) (fun k => e265 k k
 0 0 y1 y2) (by
  unfold T265
  repeat' first | with_reducible exact cC | with_reducible refine cI fun _ => ?_ | with_reducible refine cM ?_ | with_reducible refine cF ?_ ?_ | with_reducible refine cL fun _ _ => ?_) h

noncomputable def T108 (O : Orc) (k m q0 q1 : Nat) (y1 : Nat) (y2 : List V) (y3 : Int) (y4 : Int) (y5 : Int) (y6 : Nat) (y7 : List V) (y8 : Int) : Option V := both (both (need (O.R 0 184 [V.sl y1 y2])
 fun x1 => asTup (some x1) fun x2 => asOsl x2[0]? fun x3 x4 => need (O.R 0 184 [V.sl y6 y7]) fun x5 => asTup (some x5) fun x6 => asOsl x6[0]? fun x7 x8 => must (false || x4.all flatV) (must (false ||
 x8.all flatV) (some (V.tup [V.osl x3 x4, V.int .i64 y3, V.int .i64 y4, V.int .i64 y5, V.osl x7 x8, V.int .i64 y8])))) (need (O.R 0 184 [V.sl y1 y2]) fun x9 => asTup (some x9) fun x10 => asOsl x10[0]?
 fun x11 x12 => need (O.R 0 184 [V.sl y6 y7]) fun x13 => asTup (some x13) fun x14 => asOsl x14[0]? fun x15 x16 => must (false || x12.all flatV) (must (false || x16.all flatV) (some (V.tup [V.osl x11
 x12, V.int .i64 y3, V.int .i64 y4, V.int .i64 y5, V.osl x15 x16, V.int .i64 y8]))))) (need (O.R 0 184 [V.sl y1 y2]) fun x17 => asTup (some x17) fun x18 => asOsl x18[0]? fun x19 x20 => need (O.R 0 184
 [V.sl y6 y7]) fun x21 => asTup (some x21) fun x22 => asOsl x22[0]? fun x23 x24 => must (false || x20.all flatV) (must (false || x24.all flatV) (some (V.tup [V.osl x19 x20, V.int .i64 y3, V.int .i64
 y4, V.int .i64 y5, V.osl x23 x24, V.int .i64 y8]))))
theorem e108 (k m q0 q1 : Nat) (y1 : Nat) (y2 : List V) (y3 : Int) (y4 : Int) (y5 : Int) (y6 : Nat) (y7 : List V) (y8 : Int) : runV C (k + 1) 108 [V.agg [V.sl y1 y2, V.int .i64 y3, V.int .i64 y4, V.int
 .i64 y5, V.sl y6 y7, V.int .i64 y8]] = T108 (orc C k) k m q0 q1 y1 y2 y3 y4 y5 y6 y7 y8 := by kernel_rfl
theorem E108 (y1 : Nat) (y2 : List V) (y3 : Int) (y4 : Int) (y5 : Int) (y6 : Nat) (y7 : List V) (y8 : Int) {r : V} (h : T108 (orcE C) 0 0 0 0 y1 y2 y3 y4 y5 y6 y7 y8 = some r) : runE C 108 [V.agg [V.sl
 y1 y2, V.int .i64 y3, V.int .i64 y4, V.int .i64 y5, V.sl y6 y7, V.int .i64 y8]] = some r := ofR (F := fun s => T108 (orc C s.k) s.k s.m 0 0 y1 y2 y3 y4 y5 y6 y7 y8) (fun k => e108 k k 0 0 y1 y2 y3 y4
 y5 y6 y7 y8) (by
  unfold T108
  repeat' first | with_reducible exact cC | with_reducible refine cN cR fun _ => ?_ | with_reducible refine cT fun _ => ?_ | with_reducible refine cM ?_ | with_reducible refine cO fun _ _ => ?_ | with_reducible refine cN cC fun _ => ?_ | with_reducible refine cW ?_ ?_ | with_reducible exact cR) h

noncomputable def T209l1 (O : Orc) (k m q0 q1 : Nat) (y1 : Nat) (y2 : List V) (y3 : Int) (y4 : Int) : Option V := bif decide (y4 < (↑y1 : Int)) then must (inB y4 y1) (must (decide (y4.toNat * 6 + 0 <
 y2.length)) (asSl y2[y4.toNat * 6 + 0]? fun x1 x2 => need (O.R 0 254 [V.sl x1 x2, V.int .i64 y3]) fun x3 => asTup (some x3) fun x4 => PI.asInt .i64 x4[0]? fun x5 => bif decide (x5 < 0) then some
 (V.tup [V.int .i64 (-1)]) else must (inB y4 y1) (PI.asInt .i64 y2[y4.toNat * 6 + 1]? fun x6 => bif x6 != x5 then some (V.tup [V.int .i64 (-1)]) else must (inB y4 y1) (PI.asInt .i64 y2[y4.toNat * 6 +
 2]? fun x7 => bif x7 != IntKind.i64.wrap (x5 + 1) then some (V.tup [V.int .i64 (-1)]) else must (inB y4 y1) (PI.asInt .i64 y2[y4.toNat * 6 + 3]? fun x8 => bif x8 != IntKind.i64.wrap (IntKind.i64.wrap
 (x5 + 1) + 1) then some (V.tup [V.int .i64 (-1)]) else must (inB y4 y1) (must (decide (y4.toNat * 6 + 4 < y2.length)) (asSl y2[y4.toNat * 6 + 4]? fun x9 x10 => need (O.R 0 254 [V.sl x9 x10, V.int .i64
 (IntKind.i64.wrap (IntKind.i64.wrap (IntKind.i64.wrap (x5 + 1) + 1) + 1))]) fun x11 => asTup (some x11) fun x12 => PI.asInt .i64 x12[0]? fun x13 => bif decide (x13 < 0) then some (V.tup [V.int .i64
 (-1)]) else must (inB y4 y1) (PI.asInt .i64 y2[y4.toNat * 6 + 5]? fun x14 => bif x14 != x13 then some (V.tup [V.int .i64 (-1)]) else O.L 0 209 0 [true, false, true] [] m [(0, V.sl y1 y2), (1, V.int
 .i64 (IntKind.i64.wrap (x13 + 1))), (5, V.int .i64 (IntKind.i64.wrap (y4 + 1)))] [])))))))) else some (V.tup [V.int .i64 y3])
theorem e209l1 (k m q0 q1 : Nat) (y1 : Nat) (y2 : List V) (y3 : Int) (y4 : Int) : runL C k 209 0 [true, false, true] [] (m + 1) [(0, V.sl y1 y2), (1, V.int .i64 y3), (5, V.int .i64 y4)] [] = T209l1
 (orc C k) k m q0 q1 y1 y2 y3 y4 := by kernel_rfl
theorem E209l1 (y1 : Nat) (y2 : List V) (y3 : Int) (y4 : Int) {r : V} (h : T209l1 (orcE C) 0 0 0 0 y1 y2 y3 y4 = some r) : loopE C 209 0 [true, false, true] [] [(0, V.sl y1 y2), (1, V.int .i64 y3), (5,
 V.int .i64 y4)] [] = some r := ofL (j := 0) (F := fun s => T209l1 (orc C s.k) s.k s.m 0 0 y1 y2 y3 y4) (fs0 fun k m => e209l1 k m 0 0 y1 y2 y3 y4) (by
  unfold T209l1
  repeat' first | with_reducible exact cC | with_reducible refine cN cR fun _ => ?_ | with_reducible refine cT fun _ => ?_ | with_reducible refine cI fun _ => ?_ | with_reducible refine cM ?_ | with_reducible refine cF ?_ ?_ | with_reducible refine cL fun _ _ => ?_ | with_reducible refine cN cC fun _ => ?_ | with_reducible exact cR | exact cD0 gM) h

noncomputable def T255 (O : Orc) (k m q0 q1 : Nat) (y1 : Nat) (y2 : List V) (y3 : Int) (y4 : Int) (y5 : Int) (y6 : Nat) (y7 : List V) (y8 : Int) : Option V := need (O.R 0 21 [V.agg [V.sl y1 y2, V.int
 .i64 y3, V.int .i64 y4, V.int .i64 y5, V.sl y6 y7, V.int .i64 y8]]) fun x1 => asTup (some x1) fun x2 => PI.asInt .i64 x2[0]? fun x3 => bif x3 != 0 then some (V.tup [V.osl 0 []]) else need (O.R 0 258
 [V.agg [V.sl y1 y2, V.int .i64 y3, V.int .i64 y4, V.int .i64 y5, V.sl y6 y7, V.int .i64 y8]]) fun x4 => asTup (some x4) fun x5 => asOsl x5[0]? fun x6 x7 => must (false || x7.all flatV) (some (V.tup
 [V.osl x6 x7]))
theorem e255 (k m q0 q1 : Nat) (y1 : Nat) (y2 : List V) (y3 : Int) (y4 : Int) (y5 : Int) (y6 : Nat) (y7 : List V) (y8 : Int) : runV C (k + 1) 255 [V.agg [V.sl y1 y2, V.int .i64 y3, V.int .i64 y4, V.int
 .i64 y5, V.sl y6 y7, V.int .i64 y8]] = T255 (orc C k) k m q0 q1 y1 y2 y3 y4 y5 y6 y7 y8 := by kernel_rfl
theorem E255 (y1 : Nat) (y2 : List V) (y3 : Int) (y4 : Int) (y5 : Int) (y6 : Nat) (y7 : List V) (y8 : Int) {r : V} (h : T255 (orcE C) 0 0 0 0 y1 y2 y3 y4 y5 y6 y7 y8 = some r) : runE C 255 [V.agg [V.sl
 y1 y2, V.int .i64 y3, V.int .i64 y4, V.int .i64 y5, V.sl y6 y7, V.int .i64 y8]] = some r := ofR (F := fun s => T255 (orc C s.k) s.k s.m 0 0 y1 y2 y3 y4 y5 y6 y7 y8) (fun k => e255 k k 0 0 y1 y2 y3 y4
 y5 y6 y7 y8) (by
  unfold T255
  repeat' first | with_reducible exact cC | with_reducible refine cN cR fun _ => ?_ | with_reducible refine cT fun _ => ?_ | with_reducible refine cI fun _ => ?_ | with_reducible refine cM ?_ | with_reducible refine cF ?_ ?_ | with_reducible refine cO fun _ _ => ?_ | with_reducible refine cN cC fun _ => ?_ | with_reducible exact cR) h

noncomputable def T176 (O : Orc) (k m q0 q1 : Nat) (y1 : Nat) (y2 : List V) (y3 : Nat) (y4 : List V) : Option V := need (O.R 0 243 [V.sl y1 y2, V.sl y3 y4]) fun x1 => asTup (some x1) fun x2 => PI.asInt
 .i64 x2[0]? fun x3 => some (V.tup [V.bool (x3 == 0)])
theorem e176 (k m q0 q1 : Nat) (y1 : Nat) (y2 : List V) (y3 : Nat) (y4 : List V) : runV C (k + 1) 176 [V.sl y1 y2, V.sl y3 y4] = T176 (orc C k) k m q0 q1 y1 y2 y3 y4 := by kernel_rfl
theorem E176 (y1 : Nat) (y2 : List V) (y3 : Nat) (y4 : List V) {r : V} (h : T176 (orcE C) 0 0 0 0 y1 y2 y3 y4 = some r) : runE C 176 [V.sl y1 y2, V.sl y3 y4] = some r := ofR (F := fun s => T176 (orc C
 s.k) s.k s.m 0 0 y1 y2 y3 y4) (fun k => e176 k k 0 0 y1 y2 y3 y4) (by
  unfold T176
  repeat' first | with_reducible exact cC | with_reducible refine cN cR fun _ => ?_ | with_reducible refine cT fun _ => ?_ | with_reducible refine cI fun _ => ?_ | with_reducible refine cN cC fun _ => ?_ | with_reducible exact cR) h

noncomputable def T186 (O : Orc) (k m q0 q1 : Nat) (y1 : Nat) (y2 : List V) : Option V := O.L 0 186 0 [true, true, false, true] [] k [(0, V.sl y1 y2), (3, V.int .i64 0), (4, V.int .i64 0)] []
theorem e186 (k m q0 q1 : Nat) (y1 : Nat) (y2 : List V) : runV C (k + 1) 186 [V.sl y1 y2] = T186 (orc C k) k m q0 q1 y1 y2 := by kernel_rfl
theorem E186 (y1 : Nat) (y2 : List V) {r : V} (h : T186 (orcE C) 0 0 0 0 y1 y2 = some r) : runE C 186 [V.sl y1 y2] = some r := ofR (F := fun s => T186 (orc C s.k) s.k s.m 0 0 y1 y2) (fun k => e186 k k
 0 0 y1 y2) (by
  unfold T186
  repeat' first | with_reducible exact cC | exact cD0 gK) h

noncomputable def T112 (O : Orc) (k m q0 q1 : Nat) (y1 : Nat) (y2 : List V) (y3 : Int) (y4 : Int) (y5 : Int) (y6 : Nat) (y7 : List V) (y8 : Int) : Option V := need (O.R 0 188 [V.int .i64 y3]) fun x1 =>
 asTup (some x1) fun x2 => asSl x2[0]? fun x3 x4 => need (O.R 0 188 [V.int .i64 y4]) fun x5 => asTup (some x5) fun x6 => asSl x6[0]? fun x7 x8 => need (O.R 0 188 [V.int .i64 y5]) fun x9 => asTup (some
 x9) fun x10 => asSl x10[0]? fun x11 x12 => some (V.tup [V.sl 5 [V.sl y1 y2, V.sl x3 x4, V.sl x7 x8, V.sl x11 x12, V.sl y6 y7]])
theorem e112 (k m q0 q1 : Nat) (y1 : Nat) (y2 : List V) (y3 : Int) (y4 : Int) (y5 : Int) (y6 : Nat) (y7 : List V) (y8 : Int) : runV C (k + 1) 112 [V.agg [V.sl y1 y2, V.int .i64 y3, V.int .i64 y4, V.int
 .i64 y5, V.sl y6 y7, V.int .i64 y8]] = T112 (orc C k) k m q0 q1 y1 y2 y3 y4 y5 y6 y7 y8 := by kernel_rfl
theorem E112 (y1 : Nat) (y2 : List V) (y3 : Int) (y4 : Int) (y5 : Int) (y6 : Nat) (y7 : List V) (y8 : Int) {r : V} (h : T112 (orcE C) 0 0 0 0 y1 y2 y3 y4 y5 y6 y7 y8 = some r) : runE C 112 [V.agg [V.sl
 y1 y2, V.int .i64 y3, V.int .i64 y4, V.int .i64 y5, V.sl y6 y7, V.int .i64 y8]] = some r := ofR (F := fun s => T112 (orc C s.k) s.k s.m 0 0 y1 y2 y3 y4 y5 y6 y7 y8) (fun k => e112 k k 0 0 y1 y2 y3 y4
 y5 y6 y7 y8) (by
  unfold T112
  repeat' first | with_reducible exact cC | with_reducible refine cN cR fun _ => ?_ | with_reducible refine cT fun _ => ?_ | with_reducible refine cL fun _ _ => ?_ | with_reducible refine cN cC fun _ => ?_ | with_reducible exact cR) h

noncomputable def T111 (O : Orc) (k m q0 q1 : Nat) (y1 : Nat) (y2 : List V) : Option V := O.L 0 111 0 [true, true, false, true] [] k [(0, V.sl y1 y2), (3, V.ref 0), (4, V.int .i64 0)] [Ob.row 5 0 []
 false]
theorem e111 (k m q0 q1 : Nat) (y1 : Nat) (y2 : List V) : runV C (k + 1) 111 [V.sl y1 y2] = T111 (orc C k) k m q0 q1 y1 y2 := by kernel_rfl
theorem E111 (y1 : Nat) (y2 : List V) {r : V} (h : T111 (orcE C) 0 0 0 0 y1 y2 = some r) : runE C 111 [V.sl y1 y2] = some r := ofR (F := fun s => T111 (orc C s.k) s.k s.m 0 0 y1 y2) (fun k => e111 k k
 0 0 y1 y2) (by
  unfold T111
  repeat' first | with_reducible exact cC | exact cD0 gK) h

noncomputable def T188 (O : Orc) (k m q0 q1 : Nat) (y1 : Int) : Option V := O.L 0 188 0 [true, true, false, true] [] k [(0, V.int .i64 y1), (3, V.ref 0), (4, V.int .i64 6)] [Ob.row 5 0 [] false]
theorem e188 (k m q0 q1 : Nat) (y1 : Int) : runV C (k + 1) 188 [V.int .i64 y1] = T188 (orc C k) k m q0 q1 y1 := by kernel_rfl
theorem E188 (y1 : Int) {r : V} (h : T188 (orcE C) 0 0 0 0 y1 = some r) : runE C 188 [V.int .i64 y1] = some r := ofR (F := fun s => T188 (orc C s.k) s.k s.m 0 0 y1) (fun k => e188 k k 0 0 y1) (by
  unfold T188
  repeat' first | with_reducible exact cC | exact cD0 gK) h

noncomputable def T187 (O : Orc) (k m q0 q1 : Nat) (y1 : Nat) (y2 : List V) : Option V := need (O.R 0 249 []) fun x1 => PI.asAgg (some x1) fun x2 => must (x2.length.beq 64 && true && (0 +
 x2.length).ble 64 && flatB C 280 x2) (need (O.R 0 250 []) fun x3 => asTup (some x3) fun x4 => PI.asInt .i64 x4[0]? fun x5 => PI.asInt .i64 x4[1]? fun x6 => PI.asInt .i64 x4[2]? fun x7 => PI.asInt .i64
 x4[3]? fun x8 => PI.asInt .i64 x4[4]? fun x9 => PI.asInt .i64 x4[5]? fun x10 => PI.asInt .i64 x4[6]? fun x11 => PI.asInt .i64 x4[7]? fun x12 => need (O.R 0 251 [V.sl y1 y2]) fun x13 => asTup (some
 x13) fun x14 => asSl x14[0]? fun x15 x16 => O.L 0 187 0 [true, true, true, true, false, true] [] k [(3, V.ptr 0 0), (4, V.ptr 1 0), (5, V.sl x15 x16), (6, V.int .i64 0)] [Ob.box 280 (splice [V.int
 .i64 0, V.int .i64 0, V.int .i64 0, V.int .i64 0, V.int .i64 0, V.int .i64 0, V.int .i64 0, V.int .i64 0, V.int .i64 0, V.int .i64 0, V.int .i64 0, V.int .i64 0, V.int .i64 0, V.int .i64 0, V.int .i64
 0, V.int .i64 0, V.int .i64 0, V.int .i64 0, V.int .i64 0, V.int .i64 0, V.int .i64 0, V.int .i64 0, V.int .i64 0, V.int .i64 0, V.int .i64 0, V.int .i64 0, V.int .i64 0, V.int .i64 0, V.int .i64 0,
 V.int .i64 0, V.int .i64 0, V.int .i64 0, V.int .i64 0, V.int .i64 0, V.int .i64 0, V.int .i64 0, V.int .i64 0, V.int .i64 0, V.int .i64 0, V.int .i64 0, V.int .i64 0, V.int .i64 0, V.int .i64 0,
 V.int .i64 0, V.int .i64 0, V.int .i64 0, V.int .i64 0, V.int .i64 0, V.int .i64 0, V.int .i64 0, V.int .i64 0, V.int .i64 0, V.int .i64 0, V.int .i64 0, V.int .i64 0, V.int .i64 0, V.int .i64 0,
 V.int .i64 0, V.int .i64 0, V.int .i64 0, V.int .i64 0, V.int .i64 0, V.int .i64 0, V.int .i64 0] 0 x2) false, Ob.box 282 [V.int .i64 x5, V.int .i64 x6, V.int .i64 x7, V.int .i64 x8, V.int .i64 x9,
 V.int .i64 x10, V.int .i64 x11, V.int .i64 x12] false])
theorem e187 (k m q0 q1 : Nat) (y1 : Nat) (y2 : List V) : runV C (k + 1) 187 [V.sl y1 y2] = T187 (orc C k) k m q0 q1 y1 y2 := by kernel_rfl
theorem E187 (y1 : Nat) (y2 : List V) {r : V} (h : T187 (orcE C) 0 0 0 0 y1 y2 = some r) : runE C 187 [V.sl y1 y2] = some r := ofR (F := fun s => T187 (orc C s.k) s.k s.m 0 0 y1 y2) (fun k => e187 k k
 0 0 y1 y2) (by
  unfold T187
  repeat' first | with_reducible exact cC | with_reducible refine cN cR fun _ => ?_ | with_reducible refine cT fun _ => ?_ | with_reducible refine cI fun _ => ?_ | with_reducible refine cM ?_ | with_reducible refine cL fun _ _ => ?_ | with_reducible refine cA fun _ => ?_ | with_reducible refine cN cC fun _ => ?_ | with_reducible exact cR | exact cD0 gK) h

noncomputable def T257l1 (O : Orc) (k m q0 q1 : Nat) (y1 : Nat) (y2 : List V) (y3 : Nat) (y4 : List V) (y5 : Int) : Option V := bif decide (y5 < (↑y1 : Int)) then must (inB y5 y1) (must (decide
 (y5.toNat * 1 < y2.length)) (asSl y2[y5.toNat * 1]? fun x1 x2 => need (O.R 0 176 [V.sl x1 x2, V.sl y3 y4]) fun x3 => asTup (some x3) fun x4 => PI.asBool x4[0]? fun x5 => bif x5 then some (V.tup [V.int
 .i64 y5]) else O.L 0 257 0 [true, false, true] [] m [(0, V.sl y1 y2), (1, V.sl y3 y4), (5, V.int .i64 (IntKind.i64.wrap (y5 + 1)))] [])) else some (V.tup [V.int .i64 (-1)])
theorem e257l1 (k m q0 q1 : Nat) (y1 : Nat) (y2 : List V) (y3 : Nat) (y4 : List V) (y5 : Int) : runL C k 257 0 [true, false, true] [] (m + 1) [(0, V.sl y1 y2), (1, V.sl y3 y4), (5, V.int .i64 y5)] [] =
 T257l1 (orc C k) k m q0 q1 y1 y2 y3 y4 y5 := by kernel_rfl
theorem E257l1 (y1 : Nat) (y2 : List V) (y3 : Nat) (y4 : List V) (y5 : Int) {r : V} (h : T257l1 (orcE C) 0 0 0 0 y1 y2 y3 y4 y5 = some r) : loopE C 257 0 [true, false, true] [] [(0, V.sl y1 y2), (1,
 V.sl y3 y4), (5, V.int .i64 y5)] [] = some r := ofL (j := 0) (F := fun s => T257l1 (orc C s.k) s.k s.m 0 0 y1 y2 y3 y4 y5) (fs0 fun k m => e257l1 k m 0 0 y1 y2 y3 y4 y5) (by
  unfold T257l1
  repeat' first | with_reducible exact cC | with_reducible refine cN cR fun _ => ?_ | with_reducible refine cT fun _ => ?_ | with_reducible refine cM ?_ | with_reducible refine cF ?_ ?_ | with_reducible refine cB fun _ => ?_ | with_reducible refine cL fun _ _ => ?_ | with_reducible refine cN cC fun _ => ?_ | with_reducible exact cR | exact cD0 gM) h

noncomputable def T294 (O : Orc) (k m q0 q1 : Nat) (y1 : Nat) (y2 : List V) (y3 : Nat) (y4 : List V) (y5 : Int) : Option V := O.L 0 294 0 [true, true, false] [] k [(0, V.sl y1 y2), (1, V.sl y3 y4), (2,
 V.int .i64 y5), (7, V.ref 0)] [Ob.row 2 1 [V.int .i64 y5] false]
theorem e294 (k m q0 q1 : Nat) (y1 : Nat) (y2 : List V) (y3 : Nat) (y4 : List V) (y5 : Int) : runV C (k + 1) 294 [V.sl y1 y2, V.sl y3 y4, V.int .i64 y5] = T294 (orc C k) k m q0 q1 y1 y2 y3 y4 y5 := by
 kernel_rfl
theorem E294 (y1 : Nat) (y2 : List V) (y3 : Nat) (y4 : List V) (y5 : Int) {r : V} (h : T294 (orcE C) 0 0 0 0 y1 y2 y3 y4 y5 = some r) : runE C 294 [V.sl y1 y2, V.sl y3 y4, V.int .i64 y5] = some r :=
 ofR (F := fun s => T294 (orc C s.k) s.k s.m 0 0 y1 y2 y3 y4 y5) (fun k => e294 k k 0 0 y1 y2 y3 y4 y5) (by
  unfold T294
  repeat' first | with_reducible exact cC | exact cD0 gK) h

noncomputable def T260l1 (O : Orc) (k m q0 q1 : Nat) (y1 : Nat) (y2 : List V) (y3 : Nat) (y4 : List V) (y5 : Int) (y6 : Nat) (y7 : List V) : Option V := bif decide (y5 < (↑y3 : Int)) then must (inB y5
 y3) (PI.asInt .i64 y4[y5.toNat * 1]? fun x1 => must (inB x1 y1) (asSl y2[x1.toNat * 6]? fun x2 x3 => PI.asInt .i64 y2[x1.toNat * 6 + 1]? fun x4 => PI.asInt .i64 y2[x1.toNat * 6 + 1 + 1]? fun x5 =>
 PI.asInt .i64 y2[x1.toNat * 6 + 1 + 1 + 1]? fun x6 => asSl y2[x1.toNat * 6 + 1 + 1 + 1 + 1]? fun x7 x8 => PI.asInt .i64 y2[x1.toNat * 6 + 1 + 1 + 1 + 1 + 1]? fun x9 => must (true && (y6 + 1).ble
 140737488355328 && ((y6 + 1) * 80).ble 140737488355328) (O.L 0 260 0 [true, true, true, false, true] [] m [(0, V.sl y1 y2), (7, V.sl y3 y4), (8, V.ref 0), (9, V.int .i64 (IntKind.i64.wrap (y5 + 1)))]
 [Ob.row 42 (y6 + 1) (y7 ++ [V.sl x2 x3, V.int .i64 x4, V.int .i64 x5, V.int .i64 x6, V.sl x7 x8, V.int .i64 x9]) false]))) else some (V.tup [V.sl y6 y7])
theorem e260l1 (k m q0 q1 : Nat) (y1 : Nat) (y2 : List V) (y3 : Nat) (y4 : List V) (y5 : Int) (y6 : Nat) (y7 : List V) : runL C k 260 0 [true, true, true, false, true] [] (m + 1) [(0, V.sl y1 y2), (7,
 V.sl y3 y4), (8, V.ref 0), (9, V.int .i64 y5)] [Ob.row 42 y6 y7 false] = T260l1 (orc C k) k m q0 q1 y1 y2 y3 y4 y5 y6 y7 := by kernel_rfl
theorem E260l1 (y1 : Nat) (y2 : List V) (y3 : Nat) (y4 : List V) (y5 : Int) (y6 : Nat) (y7 : List V) {r : V} (h : T260l1 (orcE C) 0 0 0 0 y1 y2 y3 y4 y5 y6 y7 = some r) : loopE C 260 0 [true, true,
 true, false, true] [] [(0, V.sl y1 y2), (7, V.sl y3 y4), (8, V.ref 0), (9, V.int .i64 y5)] [Ob.row 42 y6 y7 false] = some r := ofL (j := 0) (F := fun s => T260l1 (orc C s.k) s.k s.m 0 0 y1 y2 y3 y4 y5
 y6 y7) (fs0 fun k m => e260l1 k m 0 0 y1 y2 y3 y4 y5 y6 y7) (by
  unfold T260l1
  repeat' first | with_reducible exact cC | with_reducible refine cI fun _ => ?_ | with_reducible refine cM ?_ | with_reducible refine cF ?_ ?_ | with_reducible refine cL fun _ _ => ?_ | exact cD0 gM) h

noncomputable def T284 (O : Orc) (k m q0 q1 : Nat) (y1 : Int) (y2 : Int) : Option V := bif decide (y1 < y2) then some (V.tup [V.int .i64 y1]) else some (V.tup [V.int .i64 y2])
theorem e284 (k m q0 q1 : Nat) (y1 : Int) (y2 : Int) : runV C (k + 1) 284 [V.int .i64 y1, V.int .i64 y2] = T284 (orc C k) k m q0 q1 y1 y2 := by kernel_rfl
theorem E284 (y1 : Int) (y2 : Int) {r : V} (h : T284 (orcE C) 0 0 0 0 y1 y2 = some r) : runE C 284 [V.int .i64 y1, V.int .i64 y2] = some r := ofR (F := fun s => T284 (orc C s.k) s.k s.m 0 0 y1 y2) (fun
 k => e284 k k 0 0 y1 y2) (by
  unfold T284
  repeat' first | with_reducible exact cC | with_reducible refine cF ?_ ?_) h

noncomputable def T293 (O : Orc) (k m q0 q1 : Nat) (y1 : Int) (y2 : Int) : Option V := bif decide (y1 > y2) then some (V.tup [V.int .i64 y1]) else some (V.tup [V.int .i64 y2])
theorem e293 (k m q0 q1 : Nat) (y1 : Int) (y2 : Int) : runV C (k + 1) 293 [V.int .i64 y1, V.int .i64 y2] = T293 (orc C k) k m q0 q1 y1 y2 := by kernel_rfl
theorem E293 (y1 : Int) (y2 : Int) {r : V} (h : T293 (orcE C) 0 0 0 0 y1 y2 = some r) : runE C 293 [V.int .i64 y1, V.int .i64 y2] = some r := ofR (F := fun s => T293 (orc C s.k) s.k s.m 0 0 y1 y2) (fun
 k => e293 k k 0 0 y1 y2) (by
  unfold T293
  repeat' first | with_reducible exact cC | with_reducible refine cF ?_ ?_) h

noncomputable def T107 (O : Orc) (k m q0 q1 : Nat) (y1 : Nat) (y2 : List V) (y3 : Nat) (y4 : List V) : Option V := must (y2.length.beq y1 && y2.all isU8) (must (y4.length.beq y3 && y4.all isU8) (some
 (V.tup [V.bool (strEq (packB y2) (packB y4))])))
theorem e107 (k m q0 q1 : Nat) (y1 : Nat) (y2 : List V) (y3 : Nat) (y4 : List V) : runV C (k + 1) 107 [V.sl y1 y2, V.sl y3 y4] = T107 (orc C k) k m q0 q1 y1 y2 y3 y4 := by kernel_rfl
theorem E107 (y1 : Nat) (y2 : List V) (y3 : Nat) (y4 : List V) {r : V} (h : T107 (orcE C) 0 0 0 0 y1 y2 y3 y4 = some r) : runE C 107 [V.sl y1 y2, V.sl y3 y4] = some r := ofR (F := fun s => T107 (orc C
 s.k) s.k s.m 0 0 y1 y2 y3 y4) (fun k => e107 k k 0 0 y1 y2 y3 y4) (by
  unfold T107
  repeat' first | with_reducible exact cC | with_reducible refine cM ?_) h

noncomputable def T180 (O : Orc) (k m q0 q1 : Nat) (y1 : Nat) (y2 : List V) : Option V := need (O.R 6 211 [V.sl y1 y2, V.fn 247 []]) fun x1 => asTup (some x1) fun x2 => PI.asInt .i64 x2[0]? fun x3 =>
 some (V.tup [V.bool !decide (x3 ≥ 0)])
theorem e180 (k m q0 q1 : Nat) (y1 : Nat) (y2 : List V) : runV C (k + 8) 180 [V.sl y1 y2] = T180 (orc C k) k m q0 q1 y1 y2 := by kernel_rfl
theorem E180 (y1 : Nat) (y2 : List V) {r : V} (h : T180 (orcE C) 0 0 0 0 y1 y2 = some r) : runE C 180 [V.sl y1 y2] = some r := ofR (F := fun s => T180 (orc C s.k) s.k s.m 0 0 y1 y2) (fun k => e180 k k
 0 0 y1 y2) (by
  unfold T180
  repeat' first | with_reducible exact cC | with_reducible refine cN cR fun _ => ?_ | with_reducible refine cT fun _ => ?_ | with_reducible refine cI fun _ => ?_ | with_reducible refine cN cC fun _ => ?_ | with_reducible exact cR) h

noncomputable def T181 (O : Orc) (k m q0 q1 : Nat) (y1 : Int) : Option V := need (O.R 0 92 [V.int .i64 y1, V.int .i64 0, V.int .i64 40]) fun x1 => asTup (some x1) fun x2 => PI.asBool x2[0]? fun x3 =>
 some (V.tup [V.bool x3])
theorem e181 (k m q0 q1 : Nat) (y1 : Int) : runV C (k + 1) 181 [V.int .i64 y1] = T181 (orc C k) k m q0 q1 y1 := by kernel_rfl
theorem E181 (y1 : Int) {r : V} (h : T181 (orcE C) 0 0 0 0 y1 = some r) : runE C 181 [V.int .i64 y1] = some r := ofR (F := fun s => T181 (orc C s.k) s.k s.m 0 0 y1) (fun k => e181 k k 0 0 y1) (by
  unfold T181
  repeat' first | with_reducible exact cC | with_reducible refine cN cR fun _ => ?_ | with_reducible refine cT fun _ => ?_ | with_reducible refine cB fun _ => ?_ | with_reducible refine cN cC fun _ => ?_ | with_reducible exact cR) h

noncomputable def T27 (O : Orc) (k m q0 q1 : Nat) (y1 : Nat) (y2 : List V) : Option V := O.L 0 27 0 [true, true, false, true] [] k [(3, V.int .i64 0), (6, V.sl y1 y2), (7, V.int .i64 (↑y1 : Int)), (8,
 V.int .i64 0)] []
theorem e27 (k m q0 q1 : Nat) (y1 : Nat) (y2 : List V) : runV C (k + 1) 27 [V.sl y1 y2] = T27 (orc C k) k m q0 q1 y1 y2 := by kernel_rfl
theorem E27 (y1 : Nat) (y2 : List V) {r : V} (h : T27 (orcE C) 0 0 0 0 y1 y2 = some r) : runE C 27 [V.sl y1 y2] = some r := ofR (F := fun s => T27 (orc C s.k) s.k s.m 0 0 y1 y2) (fun k => e27 k k 0 0
 y1 y2) (by
  unfold T27
  repeat' first | with_reducible exact cC | exact cD0 gK) h

noncomputable def T101 (O : Orc) (k m q0 q1 : Nat) (y1 : Nat) (y2 : List V) (y3 : Int) (y4 : Int) (y5 : Int) (y6 : Nat) (y7 : List V) (y8 : Int) : Option V := need (O.R 0 102 [V.int .i64 y3]) fun x1 =>
 asTup (some x1) fun x2 => asSl x2[0]? fun x3 x4 => need (O.R 0 102 [V.int .i64 y4]) fun x5 => asTup (some x5) fun x6 => asSl x6[0]? fun x7 x8 => need (O.R 0 102 [V.int .i64 y5]) fun x9 => asTup (some
 x9) fun x10 => asSl x10[0]? fun x11 x12 => some (V.tup [V.sl 5 [V.sl y1 y2, V.sl x3 x4, V.sl x7 x8, V.sl x11 x12, V.sl y6 y7]])
theorem e101 (k m q0 q1 : Nat) (y1 : Nat) (y2 : List V) (y3 : Int) (y4 : Int) (y5 : Int) (y6 : Nat) (y7 : List V) (y8 : Int) : runV C (k + 1) 101 [V.agg [V.sl y1 y2, V.int .i64 y3, V.int .i64 y4, V.int
 .i64 y5, V.sl y6 y7, V.int .i64 y8]] = T101 (orc C k) k m q0 q1 y1 y2 y3 y4 y5 y6 y7 y8 := by kernel_rfl
theorem E101 (y1 : Nat) (y2 : List V) (y3 : Int) (y4 : Int) (y5 : Int) (y6 : Nat) (y7 : List V) (y8 : Int) {r : V} (h : T101 (orcE C) 0 0 0 0 y1 y2 y3 y4 y5 y6 y7 y8 = some r) : runE C 101 [V.agg [V.sl
 y1 y2, V.int .i64 y3, V.int .i64 y4, V.int .i64 y5, V.sl y6 y7, V.int .i64 y8]] = some r := ofR (F := fun s => T101 (orc C s.k) s.k s.m 0 0 y1 y2 y3 y4 y5 y6 y7 y8) (fun k => e101 k k 0 0 y1 y2 y3 y4
 y5 y6 y7 y8) (by
  unfold T101
  repeat' first | with_reducible exact cC | with_reducible refine cN cR fun _ => ?_ | with_reducible refine cT fun _ => ?_ | with_reducible refine cL fun _ _ => ?_ | with_reducible refine cN cC fun _ => ?_ | with_reducible exact cR) h

noncomputable def T100 (O : Orc) (k m q0 q1 : Nat) (y1 : Nat) (y2 : List V) : Option V := need (O.R 0 182 [V.sl y1 y2]) fun x1 => asTup (some x1) fun x2 => asSl x2[0]? fun x3 x4 => PI.asBool x2[1]? fun
 x5 => some (V.tup [V.sl x3 x4])
theorem e100 (k m q0 q1 : Nat) (y1 : Nat) (y2 : List V) : runV C (k + 1) 100 [V.sl y1 y2] = T100 (orc C k) k m q0 q1 y1 y2 := by kernel_rfl
theorem E100 (y1 : Nat) (y2 : List V) {r : V} (h : T100 (orcE C) 0 0 0 0 y1 y2 = some r) : runE C 100 [V.sl y1 y2] = some r := ofR (F := fun s => T100 (orc C s.k) s.k s.m 0 0 y1 y2) (fun k => e100 k k
 0 0 y1 y2) (by
  unfold T100
  repeat' first | with_reducible exact cC | with_reducible refine cN cR fun _ => ?_ | with_reducible refine cT fun _ => ?_ | with_reducible refine cB fun _ => ?_ | with_reducible refine cL fun _ _ => ?_ | with_reducible refine cN cC fun _ => ?_ | with_reducible exact cR) h

noncomputable def T102 (O : Orc) (k m q0 q1 : Nat) (y1 : Int) : Option V := O.L 0 102 0 [true, true, false, true] [] k [(0, V.int .i64 y1), (3, V.ref 0), (4, V.int .i64 6)] [Ob.row 5 7 [V.int .u8 0,
 V.int .u8 0, V.int .u8 0, V.int .u8 0, V.int .u8 0, V.int .u8 0, V.int .u8 0] false]
theorem e102 (k m q0 q1 : Nat) (y1 : Int) : runV C (k + 1) 102 [V.int .i64 y1] = T102 (orc C k) k m q0 q1 y1 := by kernel_rfl
theorem E102 (y1 : Int) {r : V} (h : T102 (orcE C) 0 0 0 0 y1 = some r) : runE C 102 [V.int .i64 y1] = some r := ofR (F := fun s => T102 (orc C s.k) s.k s.m 0 0 y1) (fun k => e102 k k 0 0 y1) (by
  unfold T102
  repeat' first | with_reducible exact cC | exact cD0 gK) h

noncomputable def T183 (O : Orc) (k m q0 q1 : Nat) (y1 : Nat) (y2 : List V) : Option V := O.L 0 183 0 [true, true, false, true] [] k [(3, V.ref 0), (13, V.sl y1 y2), (14, V.int .i64 (↑y1 : Int)), (15,
 V.int .i64 0)] [Ob.row 5 0 [] false]
theorem e183 (k m q0 q1 : Nat) (y1 : Nat) (y2 : List V) : runV C (k + 1) 183 [V.sl y1 y2] = T183 (orc C k) k m q0 q1 y1 y2 := by kernel_rfl
theorem E183 (y1 : Nat) (y2 : List V) {r : V} (h : T183 (orcE C) 0 0 0 0 y1 y2 = some r) : runE C 183 [V.sl y1 y2] = some r := ofR (F := fun s => T183 (orc C s.k) s.k s.m 0 0 y1 y2) (fun k => e183 k k
 0 0 y1 y2) (by
  unfold T183
  repeat' first | with_reducible exact cC | exact cD0 gK) h

noncomputable def T295l1 (O : Orc) (k m q0 q1 : Nat) (y1 : Nat) (y2 : List V) (y3 : Nat) (y4 : List V) (y5 : Int) (y6 : Int) : Option V := bif decide (y6 < y5) then must (inB y6 y1) (asSl y2[y6.toNat *
 6]? fun x1 x2 => PI.asInt .i64 y2[y6.toNat * 6 + 1]? fun x3 => PI.asInt .i64 y2[y6.toNat * 6 + 1 + 1]? fun x4 => PI.asInt .i64 y2[y6.toNat * 6 + 1 + 1 + 1]? fun x5 => asSl y2[y6.toNat * 6 + 1 + 1 + 1
 + 1]? fun x6 x7 => PI.asInt .i64 y2[y6.toNat * 6 + 1 + 1 + 1 + 1 + 1]? fun x8 => need (O.R 0 263 [V.agg [V.sl x1 x2, V.int .i64 x3, V.int .i64 x4, V.int .i64 x5, V.sl x6 x7, V.int .i64 x8], V.pin
 [V.sl y3 y4] 0]) fun x9 => asTup (some x9) fun x10 => PI.asBool x10[0]? fun x11 => bif x11 then some (V.tup [V.int .i64 y6]) else O.L 0 295 0 [true, false, true] [] m [(0, V.sl y1 y2), (1, V.fn 263
 [V.pin [V.sl y3 y4] 0]), (7, V.int .i64 y5), (8, V.int .i64 (IntKind.i64.wrap (y6 + 1)))] []) else some (V.tup [V.int .i64 (-1)])
theorem e295l1 (k m q0 q1 : Nat) (y1 : Nat) (y2 : List V) (y3 : Nat) (y4 : List V) (y5 : Int) (y6 : Int) : runL C k 295 0 [true, false, true] [] (m + 1) [(0, V.sl y1 y2), (1, V.fn 263 [V.pin [V.sl y3
 y4] 0]), (7, V.int .i64 y5), (8, V.int .i64 y6)] [] = T295l1 (orc C k) k m q0 q1 y1 y2 y3 y4 y5 y6 := by kernel_rfl
theorem E295l1 (y1 : Nat) (y2 : List V) (y3 : Nat) (y4 : List V) (y5 : Int) (y6 : Int) {r : V} (h : T295l1 (orcE C) 0 0 0 0 y1 y2 y3 y4 y5 y6 = some r) : loopE C 295 0 [true, false, true] [] [(0, V.sl
 y1 y2), (1, V.fn 263 [V.pin [V.sl y3 y4] 0]), (7, V.int .i64 y5), (8, V.int .i64 y6)] [] = some r := ofL (j := 0) (F := fun s => T295l1 (orc C s.k) s.k s.m 0 0 y1 y2 y3 y4 y5 y6) (fs0 fun k m =>
 e295l1 k m 0 0 y1 y2 y3 y4 y5 y6) (by
  unfold T295l1
  repeat' first | with_reducible exact cC | with_reducible refine cN cR fun _ => ?_ | with_reducible refine cT fun _ => ?_ | with_reducible refine cI fun _ => ?_ | with_reducible refine cM ?_ | with_reducible refine cF ?_ ?_ | with_reducible refine cB fun _ => ?_ | with_reducible refine cL fun _ _ => ?_ | with_reducible refine cN cC fun _ => ?_ | with_reducible exact cR | exact cD0 gM) h

noncomputable def T295s2 (O : Orc) (k m q0 q1 : Nat) (y1 : Nat) (y2 : List V) (y3 : Nat) (y4 : List V) (y5 : Int) (y6 : Int) (y7 : Int) (y8 : Nat) (y9 : List V) (y10 : Int) : Option V := O.L 0 295 0
 [true, false, true] [] k [(0, V.sl y1 y2), (1, V.fn 296 [V.pin [V.sl y3 y4, V.int .i64 y5, V.int .i64 y6, V.int .i64 y7, V.sl y8 y9, V.int .i64 y10] 0]), (7, V.int .i64 (↑y1 : Int)), (8, V.int .i64
 0)] []
theorem e295s2 (k m q0 q1 : Nat) (y1 : Nat) (y2 : List V) (y3 : Nat) (y4 : List V) (y5 : Int) (y6 : Int) (y7 : Int) (y8 : Nat) (y9 : List V) (y10 : Int) : runV C (k + 1) 295 [V.sl y1 y2, V.fn 296
 [V.pin [V.sl y3 y4, V.int .i64 y5, V.int .i64 y6, V.int .i64 y7, V.sl y8 y9, V.int .i64 y10] 0]] = T295s2 (orc C k) k m q0 q1 y1 y2 y3 y4 y5 y6 y7 y8 y9 y10 := by kernel_rfl
theorem E295s2 (y1 : Nat) (y2 : List V) (y3 : Nat) (y4 : List V) (y5 : Int) (y6 : Int) (y7 : Int) (y8 : Nat) (y9 : List V) (y10 : Int) {r : V} (h : T295s2 (orcE C) 0 0 0 0 y1 y2 y3 y4 y5 y6 y7 y8 y9
 y10 = some r) : runE C 295 [V.sl y1 y2, V.fn 296 [V.pin [V.sl y3 y4, V.int .i64 y5, V.int .i64 y6, V.int .i64 y7, V.sl y8 y9, V.int .i64 y10] 0]] = some r := ofR (F := fun s => T295s2 (orc C s.k) s.k
 s.m 0 0 y1 y2 y3 y4 y5 y6 y7 y8 y9 y10) (fun k => e295s2 k k 0 0 y1 y2 y3 y4 y5 y6 y7 y8 y9 y10) (by
  unfold T295s2
  repeat' first | with_reducible exact cC | exact cD0 gK) h

noncomputable def T267l1 (O : Orc) (k m q0 q1 : Nat) (y1 : Nat) (y2 : List V) (y3 : Int) (y4 : Nat) (y5 : List V) : Option V := must (true && (y4 + 1).ble 140737488355328 && ((y4 + 1) * 8).ble
 140737488355328) (bif y3 == 0 then need (O.W 0 297 [0] [V.ref 0] [Ob.row 2 (y4 + 1) (y5 ++ [V.int .i64 y3]) false]) fun x1 => asTup (some x1) fun x2 => asOsl x2[0]? fun x3 x4 => some (V.tup [V.sl x3
 x4]) else must (decide (0 ≤ y3) && decide (y3 ≤ (↑y1 : Int))) (must (inB y3 y1) (asSl y2[y3.toNat * 6]? fun x5 x6 => PI.asInt .i64 y2[y3.toNat * 6 + 1]? fun x7 => PI.asInt .i64 y2[y3.toNat * 6 + 1 +
 1]? fun x8 => PI.asInt .i64 y2[y3.toNat * 6 + 1 + 1 + 1]? fun x9 => asSl y2[y3.toNat * 6 + 1 + 1 + 1 + 1]? fun x10 x11 => PI.asInt .i64 y2[y3.toNat * 6 + 1 + 1 + 1 + 1 + 1]? fun x12 => need (O.R 0 264
 [V.sl (y3.toNat - 0) (List.take ((y3.toNat - 0) * 6) (List.drop 0 y2)), V.agg [V.sl x5 x6, V.int .i64 x7, V.int .i64 x8, V.int .i64 x9, V.sl x10 x11, V.int .i64 x12]]) fun x13 => asTup (some x13) fun
 x14 => PI.asInt .i64 x14[0]? fun x15 => O.L 0 267 0 [true, true] [] m [(0, V.sl y1 y2), (1, V.int .i64 x15), (5, V.ref 0)] [Ob.row 2 (y4 + 1) (y5 ++ [V.int .i64 y3]) false])))
theorem e267l1 (k m q0 q1 : Nat) (y1 : Nat) (y2 : List V) (y3 : Int) (y4 : Nat) (y5 : List V) : runL C k 267 0 [true, true] [] (m + 1) [(0, V.sl y1 y2), (1, V.int .i64 y3), (5, V.ref 0)] [Ob.row 2 y4
 y5 false] = T267l1 (orc C k) k m q0 q1 y1 y2 y3 y4 y5 := by kernel_rfl
theorem E267l1 (y1 : Nat) (y2 : List V) (y3 : Int) (y4 : Nat) (y5 : List V) {r : V} (h : T267l1 (orcE C) 0 0 0 0 y1 y2 y3 y4 y5 = some r) : loopE C 267 0 [true, true] [] [(0, V.sl y1 y2), (1, V.int
 .i64 y3), (5, V.ref 0)] [Ob.row 2 y4 y5 false] = some r := ofL (j := 0) (F := fun s => T267l1 (orc C s.k) s.k s.m 0 0 y1 y2 y3 y4 y5) (fs0 fun k m => e267l1 k m 0 0 y1 y2 y3 y4 y5) (by
  unfold T267l1
  repeat' first | with_reducible exact cC | with_reducible refine cN cR fun _ => ?_ | with_reducible refine cN cQ fun _ => ?_ | with_reducible refine cT fun _ => ?_ | with_reducible refine cI fun _ => ?_ | with_reducible refine cM ?_ | with_reducible refine cF ?_ ?_ | with_reducible refine cL fun _ _ => ?_ | with_reducible refine cO fun _ _ => ?_ | with_reducible refine cN cC fun _ => ?_ | with_reducible exact cR | with_reducible exact cQ | exact cD0 gM) h

noncomputable def T266l1 (O : Orc) (k m q0 q1 : Nat) (y1 : Nat) (y2 : List V) (y3 : Nat) (y4 : List V) (y5 : Int) (y6 : Int) (y7 : Nat) (y8 : List V) : Option V := bif decide (y6 < y5) then must (inB
 y6 y3) (PI.asInt .i64 y4[y6.toNat * 1]? fun x1 => must (inB x1 y1) (asSl y2[x1.toNat * 6]? fun x2 x3 => PI.asInt .i64 y2[x1.toNat * 6 + 1]? fun x4 => PI.asInt .i64 y2[x1.toNat * 6 + 1 + 1]? fun x5 =>
 PI.asInt .i64 y2[x1.toNat * 6 + 1 + 1 + 1]? fun x6 => asSl y2[x1.toNat * 6 + 1 + 1 + 1 + 1]? fun x7 x8 => PI.asInt .i64 y2[x1.toNat * 6 + 1 + 1 + 1 + 1 + 1]? fun x9 => must (true && (y7 + 1).ble
 140737488355328 && ((y7 + 1) * 80).ble 140737488355328) (O.L 0 266 0 [true, true, false, true] [] m [(0, V.sl y1 y2), (5, V.ref 0), (9, V.sl y3 y4), (10, V.int .i64 y5), (11, V.int .i64
 (IntKind.i64.wrap (y6 + 1)))] [Ob.row 42 (y7 + 1) (y8 ++ [V.sl x2 x3, V.int .i64 x4, V.int .i64 x5, V.int .i64 x6, V.sl x7 x8, V.int .i64 x9]) false]))) else some (V.tup [V.sl y7 y8])
theorem e266l1 (k m q0 q1 : Nat) (y1 : Nat) (y2 : List V) (y3 : Nat) (y4 : List V) (y5 : Int) (y6 : Int) (y7 : Nat) (y8 : List V) : runL C k 266 0 [true, true, false, true] [] (m + 1) [(0, V.sl y1 y2),
 (5, V.ref 0), (9, V.sl y3 y4), (10, V.int .i64 y5), (11, V.int .i64 y6)] [Ob.row 42 y7 y8 false] = T266l1 (orc C k) k m q0 q1 y1 y2 y3 y4 y5 y6 y7 y8 := by kernel_rfl
theorem E266l1 (y1 : Nat) (y2 : List V) (y3 : Nat) (y4 : List V) (y5 : Int) (y6 : Int) (y7 : Nat) (y8 : List V) {r : V} (h : T266l1 (orcE C) 0 0 0 0 y1 y2 y3 y4 y5 y6 y7 y8 = some r) : loopE C 266 0
 [true, true, false, true] [] [(0, V.sl y1 y2), (5, V.ref 0), (9, V.sl y3 y4), (10, V.int .i64 y5), (11, V.int .i64 y6)] [Ob.row 42 y7 y8 false] = some r := ofL (j := 0) (F := fun s => T266l1 (orc C
 s.k) s.k s.m 0 0 y1 y2 y3 y4 y5 y6 y7 y8) (fs0 fun k m => e266l1 k m 0 0 y1 y2 y3 y4 y5 y6 y7 y8) (by
  unfold T266l1
  repeat' first | with_reducible exact cC | with_reducible refine cI fun _ => ?_ | with_reducible refine cM ?_ | with_reducible refine cF ?_ ?_ | with_reducible refine cL fun _ _ => ?_ | exact cD0 gM) h

noncomputable def T184 (O : Orc) (k m q0 q1 : Nat) (y1 : Nat) (y2 : List V) : Option V := bif y1.beq (OfNat.ofNat 0) then both (some (V.tup [V.osl 0 []])) (must (decide (y2.length = y1 * 1)) (must
 (true && (0 + y1).ble 140737488355328 && ((0 + y1) * 1).ble 140737488355328) (must (false || y2.all flatV) (some (V.tup [V.osl (0 + y1) y2]))))) else must (decide (y2.length = y1 * 1)) (must (true &&
 (0 + y1).ble 140737488355328 && ((0 + y1) * 1).ble 140737488355328) (must (false || y2.all flatV) (some (V.tup [V.osl (0 + y1) y2]))))
theorem e184 (k m q0 q1 : Nat) (y1 : Nat) (y2 : List V) : runV C (k + 1) 184 [V.sl y1 y2] = T184 (orc C k) k m q0 q1 y1 y2 := by kernel_rfl
theorem E184 (y1 : Nat) (y2 : List V) {r : V} (h : T184 (orcE C) 0 0 0 0 y1 y2 = some r) : runE C 184 [V.sl y1 y2] = some r := ofR (F := fun s => T184 (orc C s.k) s.k s.m 0 0 y1 y2) (fun k => e184 k k
 0 0 y1 y2) (by
  unfold T184
  repeat' first | with_reducible exact cC | with_reducible refine cM ?_ | with_reducible refine cF ?_ ?_ | with_reducible refine cW ?_ ?_) h

noncomputable def T254 (O : Orc) (k m q0 q1 : Nat) (y1 : Nat) (y2 : List V) (y3 : Int) : Option V := O.L 0 254 0 [true, false, true] [] k [(0, V.sl y1 y2), (1, V.int .i64 y3), (5, V.int .i64 0)] []
theorem e254 (k m q0 q1 : Nat) (y1 : Nat) (y2 : List V) (y3 : Int) : runV C (k + 1) 254 [V.sl y1 y2, V.int .i64 y3] = T254 (orc C k) k m q0 q1 y1 y2 y3 := by kernel_rfl
theorem E254 (y1 : Nat) (y2 : List V) (y3 : Int) {r : V} (h : T254 (orcE C) 0 0 0 0 y1 y2 y3 = some r) : runE C 254 [V.sl y1 y2, V.int .i64 y3] = some r := ofR (F := fun s => T254 (orc C s.k) s.k s.m 0
 0 y1 y2 y3) (fun k => e254 k k 0 0 y1 y2 y3) (by
  unfold T254
  repeat' first | with_reducible exact cC | exact cD0 gK) h

noncomputable def T243 (O : Orc) (k m q0 q1 : Nat) (y1 : Nat) (y2 : List V) (y3 : Nat) (y4 : List V) : Option V := O.L 0 243 0 [true, false, true] [] k [(0, V.sl y1 y2), (1, V.sl y3 y4), (5, V.int .i64
 0)] []
theorem e243 (k m q0 q1 : Nat) (y1 : Nat) (y2 : List V) (y3 : Nat) (y4 : List V) : runV C (k + 1) 243 [V.sl y1 y2, V.sl y3 y4] = T243 (orc C k) k m q0 q1 y1 y2 y3 y4 := by kernel_rfl
theorem E243 (y1 : Nat) (y2 : List V) (y3 : Nat) (y4 : List V) {r : V} (h : T243 (orcE C) 0 0 0 0 y1 y2 y3 y4 = some r) : runE C 243 [V.sl y1 y2, V.sl y3 y4] = some r := ofR (F := fun s => T243 (orc C
 s.k) s.k s.m 0 0 y1 y2 y3 y4) (fun k => e243 k k 0 0 y1 y2 y3 y4) (by
  unfold T243
  repeat' first | with_reducible exact cC | exact cD0 gK) h

noncomputable def T186l1 (O : Orc) (k m q0 q1 : Nat) (y1 : Nat) (y2 : List V) (y3 : Int) (y4 : Int) : Option V := bif decide (y4 < (↑y1 : Int)) then O.L 0 186 2 [true, true, false, true, false, true,
 false, false, true] [m] k [(0, V.sl y1 y2), (3, V.int .i64 y3), (4, V.int .i64 y4), (5, V.int .i64 7)] [] else some (V.tup [V.int .i64 y3])
theorem e186l1 (k m q0 q1 : Nat) (y1 : Nat) (y2 : List V) (y3 : Int) (y4 : Int) : runL C k 186 0 [true, true, false, true] [] (m + 1) [(0, V.sl y1 y2), (3, V.int .i64 y3), (4, V.int .i64 y4)] [] =
 T186l1 (orc C k) k m q0 q1 y1 y2 y3 y4 := by kernel_rfl
theorem E186l1 (y1 : Nat) (y2 : List V) (y3 : Int) (y4 : Int) {r : V} (h : T186l1 (orcE C) 0 0 0 0 y1 y2 y3 y4 = some r) : loopE C 186 0 [true, true, false, true] [] [(0, V.sl y1 y2), (3, V.int .i64
 y3), (4, V.int .i64 y4)] [] = some r := ofL (j := 0) (F := fun s => T186l1 (orc C s.k) s.k s.m 0 0 y1 y2 y3 y4) (fs0 fun k m => e186l1 k m 0 0 y1 y2 y3 y4) (by
  unfold T186l1
  repeat' first | with_reducible exact cC | with_reducible refine cF ?_ ?_ | exact cD1 gK gM) h

noncomputable def T111l1 (O : Orc) (k m q0 q1 : Nat) (y1 : Nat) (y2 : List V) (y3 : Int) (y4 : Nat) (y5 : List V) : Option V := bif decide (y3 < (↑y1 : Int)) then must (inB y3 y1) (must (decide
 (y3.toNat * 1 < y2.length)) (asSl y2[y3.toNat * 1]? fun x1 x2 => must (inB y3 y1) (must (decide (y3.toNat * 1 < y2.length)) (must (true && (y4 + 1).ble 140737488355328 && ((y4 + 1) * 1).ble
 140737488355328) (asSl y2[y3.toNat * 1]? fun x3 x4 => must (decide (x4.length = x3 * 1)) (must (true && (y4 + 1 + x3).ble 140737488355328 && ((y4 + 1 + x3) * 1).ble 140737488355328) (O.L 0 111 0
 [true, true, false, true] [] m [(0, V.sl y1 y2), (3, V.ref 0), (4, V.int .i64 (IntKind.i64.wrap (y3 + 1)))] [Ob.row 5 (y4 + 1 + x3) (y5 ++ [V.int .u8 (IntKind.u8.wrap (↑x1 : Int))] ++ x4)
 false]))))))) else must (false || y5.all flatV) (some (V.tup [V.osl y4 y5]))
theorem e111l1 (k m q0 q1 : Nat) (y1 : Nat) (y2 : List V) (y3 : Int) (y4 : Nat) (y5 : List V) : runL C k 111 0 [true, true, false, true] [] (m + 1) [(0, V.sl y1 y2), (3, V.ref 0), (4, V.int .i64 y3)]
 [Ob.row 5 y4 y5 false] = T111l1 (orc C k) k m q0 q1 y1 y2 y3 y4 y5 := by kernel_rfl
theorem E111l1 (y1 : Nat) (y2 : List V) (y3 : Int) (y4 : Nat) (y5 : List V) {r : V} (h : T111l1 (orcE C) 0 0 0 0 y1 y2 y3 y4 y5 = some r) : loopE C 111 0 [true, true, false, true] [] [(0, V.sl y1 y2),
 (3, V.ref 0), (4, V.int .i64 y3)] [Ob.row 5 y4 y5 false] = some r := ofL (j := 0) (F := fun s => T111l1 (orc C s.k) s.k s.m 0 0 y1 y2 y3 y4 y5) (fs0 fun k m => e111l1 k m 0 0 y1 y2 y3 y4 y5) (by
  unfold T111l1
  repeat' first | with_reducible exact cC | with_reducible refine cM ?_ | with_reducible refine cF ?_ ?_ | with_reducible refine cL fun _ _ => ?_ | exact cD0 gM) h

noncomputable def T188l1 (O : Orc) (k m q0 q1 : Nat) (y1 : Int) (y2 : Int) (y3 : Nat) (y4 : List V) : Option V := bif decide (y2 ≥ 0) then must (decide (0 ≤ IntKind.u64.wrap (IntKind.i64.wrap (8 *
 y2)))) (must (true && (y3 + 1).ble 140737488355328 && ((y3 + 1) * 1).ble 140737488355328) (O.L 0 188 0 [true, true, false, true] [] m [(0, V.int .i64 y1), (3, V.ref 0), (4, V.int .i64
 (IntKind.i64.wrap (y2 - 1)))] [Ob.row 5 (y3 + 1) (y4 ++ [V.int .u8 (IntKind.u8.wrap (y1.fdiv (2 ^ min (IntKind.u64.wrap (IntKind.i64.wrap (8 * y2))).toNat 64)))]) false])) else some (V.tup [V.sl y3
 y4])
theorem e188l1 (k m q0 q1 : Nat) (y1 : Int) (y2 : Int) (y3 : Nat) (y4 : List V) : runL C k 188 0 [true, true, false, true] [] (m + 1) [(0, V.int .i64 y1), (3, V.ref 0), (4, V.int .i64 y2)] [Ob.row 5 y3
 y4 false] = T188l1 (orc C k) k m q0 q1 y1 y2 y3 y4 := by kernel_rfl
theorem E188l1 (y1 : Int) (y2 : Int) (y3 : Nat) (y4 : List V) {r : V} (h : T188l1 (orcE C) 0 0 0 0 y1 y2 y3 y4 = some r) : loopE C 188 0 [true, true, false, true] [] [(0, V.int .i64 y1), (3, V.ref 0),
 (4, V.int .i64 y2)] [Ob.row 5 y3 y4 false] = some r := ofL (j := 0) (F := fun s => T188l1 (orc C s.k) s.k s.m 0 0 y1 y2 y3 y4) (fs0 fun k m => e188l1 k m 0 0 y1 y2 y3 y4) (by
  unfold T188l1
  repeat' first | with_reducible exact cC | with_reducible refine cM ?_ | with_reducible refine cF ?_ ?_ | exact cD0 gM) h

noncomputable def T249 (O : Orc) (k m q0 q1 : Nat)  : Option V := some (V.agg [V.int .i64 1116352408, V.int .i64 1899447441, V.int .i64 3049323471, V.int .i64 3921009573, V.int .i64 961987163, V.int
 .i64 1508970993, V.int .i64 2453635748, V.int .i64 2870763221, V.int .i64 3624381080, V.int .i64 310598401, V.int .i64 607225278, V.int .i64 1426881987, V.int .i64 1925078388, V.int .i64 2162078206,
 V.int .i64 2614888103, V.int .i64 3248222580, V.int .i64 3835390401, V.int .i64 4022224774, V.int .i64 264347078, V.int .i64 604807628, V.int .i64 770255983, V.int .i64 1249150122, V.int .i64
 1555081692, V.int .i64 1996064986, V.int .i64 2554220882, V.int .i64 2821834349, V.int .i64 2952996808, V.int .i64 3210313671, V.int .i64 3336571891, V.int .i64 3584528711, V.int .i64 113926993, V.int
 .i64 338241895, V.int .i64 666307205, V.int .i64 773529912, V.int .i64 1294757372, V.int .i64 1396182291, V.int .i64 1695183700, V.int .i64 1986661051, V.int .i64 2177026350, V.int .i64 2456956037,
 V.int .i64 2730485921, V.int .i64 2820302411, V.int .i64 3259730800, V.int .i64 3345764771, V.int .i64 3516065817, V.int .i64 3600352804, V.int .i64 4094571909, V.int .i64 275423344, V.int .i64
 430227734, V.int .i64 506948616, V.int .i64 659060556, V.int .i64 883997877, V.int .i64 958139571, V.int .i64 1322822218, V.int .i64 1537002063, V.int .i64 1747873779, V.int .i64 1955562222, V.int
 .i64 2024104815, V.int .i64 2227730452, V.int .i64 2361852424, V.int .i64 2428436474, V.int .i64 2756734187, V.int .i64 3204031479, V.int .i64 3329325298])
theorem e249 (k m q0 q1 : Nat)  : runV C (k + 1) 249 [] = T249 (orc C k) k m q0 q1  := by kernel_rfl
theorem E249  {r : V} (h : T249 (orcE C) 0 0 0 0  = some r) : runE C 249 [] = some r := ofR (F := fun s => T249 (orc C s.k) s.k s.m 0 0 ) (fun k => e249 k k 0 0 ) (by
  unfold T249
  exact cC) h

noncomputable def T250 (O : Orc) (k m q0 q1 : Nat)  : Option V := some (V.tup [V.int .i64 1779033703, V.int .i64 3144134277, V.int .i64 1013904242, V.int .i64 2773480762, V.int .i64 1359893119, V.int
 .i64 2600822924, V.int .i64 528734635, V.int .i64 1541459225])
theorem e250 (k m q0 q1 : Nat)  : runV C (k + 1) 250 [] = T250 (orc C k) k m q0 q1  := by kernel_rfl
theorem E250  {r : V} (h : T250 (orcE C) 0 0 0 0  = some r) : runE C 250 [] = some r := ofR (F := fun s => T250 (orc C s.k) s.k s.m 0 0 ) (fun k => e250 k k 0 0 ) (by
  unfold T250
  exact cC) h

noncomputable def T251 (O : Orc) (k m q0 q1 : Nat) (y1 : Nat) (y2 : List V) : Option V := must (decide (y2.length = y1 * 1)) (must (true && (0 + y1).ble 140737488355328 && ((0 + y1) * 1).ble
 140737488355328) (must (true && (0 + y1 + 1).ble 140737488355328 && ((0 + y1 + 1) * 1).ble 140737488355328) (O.L 0 251 0 [true, true, false] [] k [(0, V.sl y1 y2), (3, V.ref 0)] [Ob.row 5 (0 + y1 + 1)
 (y2 ++ [V.int .u8 128]) false])))
theorem e251 (k m q0 q1 : Nat) (y1 : Nat) (y2 : List V) : runV C (k + 1) 251 [V.sl y1 y2] = T251 (orc C k) k m q0 q1 y1 y2 := by kernel_rfl
theorem E251 (y1 : Nat) (y2 : List V) {r : V} (h : T251 (orcE C) 0 0 0 0 y1 y2 = some r) : runE C 251 [V.sl y1 y2] = some r := ofR (F := fun s => T251 (orc C s.k) s.k s.m 0 0 y1 y2) (fun k => e251 k k
 0 0 y1 y2) (by
  unfold T251
  repeat' first | with_reducible exact cC | with_reducible refine cM ?_ | exact cD0 gK) h

noncomputable def T187l1 (O : Orc) (k m q0 q1 : Nat) (y1 : Nat) (y2 : List V) (y3 : Int) (y4 : List V) (y5 : List V) : Option V := bif decide (y3 < (↑y1 : Int)) then O.L 0 187 2 [true, true, true,
 true, false, true, false, true, false, false, true, false, true] [m] k [(3, V.ptr 0 0), (4, V.ptr 1 0), (5, V.sl y1 y2), (6, V.int .i64 y3), (7, V.ptr 2 0), (8, V.int .i64 0)] [Ob.box 280 y4 false,
 Ob.box 282 y5 false, Ob.box 280 [V.int .i64 0, V.int .i64 0, V.int .i64 0, V.int .i64 0, V.int .i64 0, V.int .i64 0, V.int .i64 0, V.int .i64 0, V.int .i64 0, V.int .i64 0, V.int .i64 0, V.int .i64 0,
 V.int .i64 0, V.int .i64 0, V.int .i64 0, V.int .i64 0, V.int .i64 0, V.int .i64 0, V.int .i64 0, V.int .i64 0, V.int .i64 0, V.int .i64 0, V.int .i64 0, V.int .i64 0, V.int .i64 0, V.int .i64 0,
 V.int .i64 0, V.int .i64 0, V.int .i64 0, V.int .i64 0, V.int .i64 0, V.int .i64 0, V.int .i64 0, V.int .i64 0, V.int .i64 0, V.int .i64 0, V.int .i64 0, V.int .i64 0, V.int .i64 0, V.int .i64 0,
 V.int .i64 0, V.int .i64 0, V.int .i64 0, V.int .i64 0, V.int .i64 0, V.int .i64 0, V.int .i64 0, V.int .i64 0, V.int .i64 0, V.int .i64 0, V.int .i64 0, V.int .i64 0, V.int .i64 0, V.int .i64 0,
 V.int .i64 0, V.int .i64 0, V.int .i64 0, V.int .i64 0, V.int .i64 0, V.int .i64 0, V.int .i64 0, V.int .i64 0, V.int .i64 0, V.int .i64 0] false] else O.L 0 187 10 [true, true, true, true, true,
 true, false, true] [] k [(4, V.ptr 0 0), (17, V.ref 1), (18, V.int .i64 0)] [Ob.box 282 y5 false, Ob.row 5 0 [] false]
theorem e187l1 (k m q0 q1 : Nat) (y1 : Nat) (y2 : List V) (y3 : Int) (y4 : List V) (y5 : List V) : runL C k 187 0 [true, true, true, true, false, true] [] (m + 1) [(3, V.ptr 0 0), (4, V.ptr 1 0), (5,
 V.sl y1 y2), (6, V.int .i64 y3)] [Ob.box 280 y4 false, Ob.box 282 y5 false] = T187l1 (orc C k) k m q0 q1 y1 y2 y3 y4 y5 := by kernel_rfl
theorem E187l1 (y1 : Nat) (y2 : List V) (y3 : Int) (y4 : List V) (y5 : List V) {r : V} (h : T187l1 (orcE C) 0 0 0 0 y1 y2 y3 y4 y5 = some r) : loopE C 187 0 [true, true, true, true, false, true] []
 [(3, V.ptr 0 0), (4, V.ptr 1 0), (5, V.sl y1 y2), (6, V.int .i64 y3)] [Ob.box 280 y4 false, Ob.box 282 y5 false] = some r := ofL (j := 0) (F := fun s => T187l1 (orc C s.k) s.k s.m 0 0 y1 y2 y3 y4 y5)
 (fs0 fun k m => e187l1 k m 0 0 y1 y2 y3 y4 y5) (by
  unfold T187l1
  repeat' first | with_reducible exact cC | with_reducible refine cF ?_ ?_ | exact cD0 gK | exact cD1 gK gM) h

noncomputable def T294l1 (O : Orc) (k m q0 q1 : Nat) (y1 : Nat) (y2 : List V) (y3 : Nat) (y4 : List V) (y5 : Int) (y6 : Nat) (y7 : List V) : Option V := bif decide (y5 > 0) then must (decide (0 ≤ y5)
 && decide (y5 ≤ (↑y3 : Int))) (must (inB y5 y1) (must (decide (y5.toNat * 6 + 0 < y2.length)) (asSl y2[y5.toNat * 6 + 0]? fun x1 x2 => need (O.R 0 257 [V.sl (y5.toNat - 0) (List.take ((y5.toNat - 0) *
 1) (List.drop 0 y4)), V.sl x1 x2]) fun x3 => asTup (some x3) fun x4 => PI.asInt .i64 x4[0]? fun x5 => bif decide (x5 < 0) then some (V.tup [V.sl y6 y7]) else must (decide (y7.length = y6 * 1)) (must
 (true && (1 + y6).ble 140737488355328 && ((1 + y6) * 8).ble 140737488355328) (O.L 0 294 0 [true, true, false] [] m [(0, V.sl y1 y2), (1, V.sl y3 y4), (2, V.int .i64 x5), (7, V.ref 0)] [Ob.row 2 (1 +
 y6) (V.int .i64 x5 :: y7) false]))))) else some (V.tup [V.sl y6 y7])
theorem e294l1 (k m q0 q1 : Nat) (y1 : Nat) (y2 : List V) (y3 : Nat) (y4 : List V) (y5 : Int) (y6 : Nat) (y7 : List V) : runL C k 294 0 [true, true, false] [] (m + 1) [(0, V.sl y1 y2), (1, V.sl y3 y4),
 (2, V.int .i64 y5), (7, V.ref 0)] [Ob.row 2 y6 y7 false] = T294l1 (orc C k) k m q0 q1 y1 y2 y3 y4 y5 y6 y7 := by kernel_rfl
theorem E294l1 (y1 : Nat) (y2 : List V) (y3 : Nat) (y4 : List V) (y5 : Int) (y6 : Nat) (y7 : List V) {r : V} (h : T294l1 (orcE C) 0 0 0 0 y1 y2 y3 y4 y5 y6 y7 = some r) : loopE C 294 0 [true, true,
 false] [] [(0, V.sl y1 y2), (1, V.sl y3 y4), (2, V.int .i64 y5), (7, V.ref 0)] [Ob.row 2 y6 y7 false] = some r := ofL (j := 0) (F := fun s => T294l1 (orc C s.k) s.k s.m 0 0 y1 y2 y3 y4 y5 y6 y7) (fs0
 fun k m => e294l1 k m 0 0 y1 y2 y3 y4 y5 y6 y7) (by
  unfold T294l1
  repeat' first | with_reducible exact cC | with_reducible refine cN cR fun _ => ?_ | with_reducible refine cT fun _ => ?_ | with_reducible refine cI fun _ => ?_ | with_reducible refine cM ?_ | with_reducible refine cF ?_ ?_ | with_reducible refine cL fun _ _ => ?_ | with_reducible refine cN cC fun _ => ?_ | with_reducible exact cR | exact cD0 gM) h

noncomputable def T211 (O : Orc) (k m q0 q1 : Nat) (y1 : Nat) (y2 : List V) : Option V := O.L 0 211 0 [true, false, true] [] k [(0, V.sl y1 y2), (1, V.fn 247 []), (7, V.int .i64 (↑y1 : Int)), (8, V.int
 .i64 0)] []
theorem e211 (k m q0 q1 : Nat) (y1 : Nat) (y2 : List V) : runV C (k + 1) 211 [V.sl y1 y2, V.fn 247 []] = T211 (orc C k) k m q0 q1 y1 y2 := by kernel_rfl
theorem E211 (y1 : Nat) (y2 : List V) {r : V} (h : T211 (orcE C) 0 0 0 0 y1 y2 = some r) : runE C 211 [V.sl y1 y2, V.fn 247 []] = some r := ofR (F := fun s => T211 (orc C s.k) s.k s.m 0 0 y1 y2) (fun k
 => e211 k k 0 0 y1 y2) (by
  unfold T211
  repeat' first | with_reducible exact cC | exact cD0 gK) h

noncomputable def T27l1 (O : Orc) (k m q0 q1 : Nat) (y1 : Int) (y2 : Nat) (y3 : List V) (y4 : Int) (y5 : Int) : Option V := bif decide (y5 < y4) then must (inB y5 y2) (PI.asInt .u8 y3[y5.toNat * 1]?
 fun x1 => need (O.R 0 114 [V.int .u8 x1]) fun x2 => asTup (some x2) fun x3 => PI.asInt .i64 x3[0]? fun x4 => bif x1 != 0 then some (V.tup [V.int .i64 (IntKind.i64.wrap (y1 + x4))]) else O.L 0 27 0
 [true, true, false, true] [] m [(3, V.int .i64 (IntKind.i64.wrap (y1 + x4))), (6, V.sl y2 y3), (7, V.int .i64 y4), (8, V.int .i64 (IntKind.i64.wrap (y5 + 1)))] []) else some (V.tup [V.int .i64 y1])
theorem e27l1 (k m q0 q1 : Nat) (y1 : Int) (y2 : Nat) (y3 : List V) (y4 : Int) (y5 : Int) : runL C k 27 0 [true, true, false, true] [] (m + 1) [(3, V.int .i64 y1), (6, V.sl y2 y3), (7, V.int .i64 y4),
 (8, V.int .i64 y5)] [] = T27l1 (orc C k) k m q0 q1 y1 y2 y3 y4 y5 := by kernel_rfl
theorem E27l1 (y1 : Int) (y2 : Nat) (y3 : List V) (y4 : Int) (y5 : Int) {r : V} (h : T27l1 (orcE C) 0 0 0 0 y1 y2 y3 y4 y5 = some r) : loopE C 27 0 [true, true, false, true] [] [(3, V.int .i64 y1), (6,
 V.sl y2 y3), (7, V.int .i64 y4), (8, V.int .i64 y5)] [] = some r := ofL (j := 0) (F := fun s => T27l1 (orc C s.k) s.k s.m 0 0 y1 y2 y3 y4 y5) (fs0 fun k m => e27l1 k m 0 0 y1 y2 y3 y4 y5) (by
  unfold T27l1
  repeat' first | with_reducible exact cC | with_reducible refine cN cR fun _ => ?_ | with_reducible refine cT fun _ => ?_ | with_reducible refine cI fun _ => ?_ | with_reducible refine cM ?_ | with_reducible refine cF ?_ ?_ | with_reducible refine cN cC fun _ => ?_ | with_reducible exact cR | exact cD0 gM) h

noncomputable def T182 (O : Orc) (k m q0 q1 : Nat) (y1 : Nat) (y2 : List V) : Option V := bif decide ((↑y1 : Int) > 60) then some (V.tup [V.sl 0 [], V.bool false]) else O.L 0 182 0 [true, true, true,
 false, true] [] k [(4, V.ref 0), (11, V.sl y1 y2), (12, V.int .i64 (↑y1 : Int)), (13, V.int .i64 0)] [Ob.row 5 0 [] false]
theorem e182 (k m q0 q1 : Nat) (y1 : Nat) (y2 : List V) : runV C (k + 1) 182 [V.sl y1 y2] = T182 (orc C k) k m q0 q1 y1 y2 := by kernel_rfl
theorem E182 (y1 : Nat) (y2 : List V) {r : V} (h : T182 (orcE C) 0 0 0 0 y1 y2 = some r) : runE C 182 [V.sl y1 y2] = some r := ofR (F := fun s => T182 (orc C s.k) s.k s.m 0 0 y1 y2) (fun k => e182 k k
 0 0 y1 y2) (by
  unfold T182
  repeat' first | with_reducible exact cC | with_reducible refine cF ?_ ?_ | exact cD0 gK) h

noncomputable def T102l1 (O : Orc) (k m q0 q1 : Nat) (y1 : Int) (y2 : Int) (y3 : Nat) (y4 : List V) : Option V := bif decide (y2 ≥ 0) then must (inB y2 y3) (must ([V.int .u8 (IntKind.u8.wrap
 y1)].length.beq 1 && (y2.toNat * 1 + [V.int .u8 (IntKind.u8.wrap y1)].length).ble y4.length) (O.L 0 102 0 [true, true, false, true] [] m [(0, V.int .i64 (y1.fdiv 256)), (3, V.ref 0), (4, V.int .i64
 (IntKind.i64.wrap (y2 - 1)))] [Ob.row 5 y3 (splice y4 (y2.toNat * 1) [V.int .u8 (IntKind.u8.wrap y1)]) false])) else some (V.tup [V.sl y3 y4])
theorem e102l1 (k m q0 q1 : Nat) (y1 : Int) (y2 : Int) (y3 : Nat) (y4 : List V) : runL C k 102 0 [true, true, false, true] [] (m + 1) [(0, V.int .i64 y1), (3, V.ref 0), (4, V.int .i64 y2)] [Ob.row 5 y3
 y4 false] = T102l1 (orc C k) k m q0 q1 y1 y2 y3 y4 := by kernel_rfl
theorem E102l1 (y1 : Int) (y2 : Int) (y3 : Nat) (y4 : List V) {r : V} (h : T102l1 (orcE C) 0 0 0 0 y1 y2 y3 y4 = some r) : loopE C 102 0 [true, true, false, true] [] [(0, V.int .i64 y1), (3, V.ref 0),
 (4, V.int .i64 y2)] [Ob.row 5 y3 y4 false] = some r := ofL (j := 0) (F := fun s => T102l1 (orc C s.k) s.k s.m 0 0 y1 y2 y3 y4) (fs0 fun k m => e102l1 k m 0 0 y1 y2 y3 y4) (by
  unfold T102l1
  repeat' first | with_reducible exact cC | with_reducible refine cM ?_ | with_reducible refine cF ?_ ?_ | exact cD0 gM) h

noncomputable def T183l1 (O : Orc) (k m q0 q1 : Nat) (y1 : Nat) (y2 : List V) (y3 : Int) (y4 : Int) (y5 : Nat) (y6 : List V) : Option V := bif decide (y4 < y3) then must (inB y4 y1) (must (decide
 (y4.toNat * 1 < y2.length)) (asSl y2[y4.toNat * 1]? fun x1 x2 => must (decide (x2.length = x1 * 1)) (must (true && (y5 + x1).ble 140737488355328 && ((y5 + x1) * 1).ble 140737488355328) (O.L 0 183 0
 [true, true, false, true] [] m [(3, V.ref 0), (13, V.sl y1 y2), (14, V.int .i64 y3), (15, V.int .i64 (IntKind.i64.wrap (y4 + 1)))] [Ob.row 5 (y5 + x1) (y6 ++ x2) false])))) else must (true && (y5 +
 1).ble 140737488355328 && ((y5 + 1) * 1).ble 140737488355328) (O.L 0 183 2 [true, true, true, true, true, false] [] k [(3, V.ref 0), (6, V.int .u64 (IntKind.u64.wrap (IntKind.u64.wrap (↑y5 : Int) *
 8)))] [Ob.row 5 (y5 + 1) (y6 ++ [V.int .u8 128]) false])
theorem e183l1 (k m q0 q1 : Nat) (y1 : Nat) (y2 : List V) (y3 : Int) (y4 : Int) (y5 : Nat) (y6 : List V) : runL C k 183 0 [true, true, false, true] [] (m + 1) [(3, V.ref 0), (13, V.sl y1 y2), (14,
 V.int .i64 y3), (15, V.int .i64 y4)] [Ob.row 5 y5 y6 false] = T183l1 (orc C k) k m q0 q1 y1 y2 y3 y4 y5 y6 := by kernel_rfl
theorem E183l1 (y1 : Nat) (y2 : List V) (y3 : Int) (y4 : Int) (y5 : Nat) (y6 : List V) {r : V} (h : T183l1 (orcE C) 0 0 0 0 y1 y2 y3 y4 y5 y6 = some r) : loopE C 183 0 [true, true, false, true] [] [(3,
 V.ref 0), (13, V.sl y1 y2), (14, V.int .i64 y3), (15, V.int .i64 y4)] [Ob.row 5 y5 y6 false] = some r := ofL (j := 0) (F := fun s => T183l1 (orc C s.k) s.k s.m 0 0 y1 y2 y3 y4 y5 y6) (fs0 fun k m =>
 e183l1 k m 0 0 y1 y2 y3 y4 y5 y6) (by
  unfold T183l1
  repeat' first | with_reducible exact cC | with_reducible refine cM ?_ | with_reducible refine cF ?_ ?_ | with_reducible refine cL fun _ _ => ?_ | exact cD0 gK | exact cD0 gM) h

noncomputable def T263 (O : Orc) (k m q0 q1 : Nat) (y1 : Nat) (y2 : List V) (y3 : Int) (y4 : Int) (y5 : Int) (y6 : Nat) (y7 : List V) (y8 : Int) (y9 : Nat) (y10 : List V) : Option V := need (O.R 0 104
 [V.agg [V.sl y1 y2, V.int .i64 y3, V.int .i64 y4, V.int .i64 y5, V.sl y6 y7, V.int .i64 y8]]) fun x1 => asTup (some x1) fun x2 => asSl x2[0]? fun x3 x4 => need (O.R 0 107 [V.sl x3 x4, V.sl y9 y10])
 fun x5 => asTup (some x5) fun x6 => PI.asBool x6[0]? fun x7 => some (V.tup [V.bool x7])
theorem e263 (k m q0 q1 : Nat) (y1 : Nat) (y2 : List V) (y3 : Int) (y4 : Int) (y5 : Int) (y6 : Nat) (y7 : List V) (y8 : Int) (y9 : Nat) (y10 : List V) : runV C (k + 1) 263 [V.agg [V.sl y1 y2, V.int
 .i64 y3, V.int .i64 y4, V.int .i64 y5, V.sl y6 y7, V.int .i64 y8], V.pin [V.sl y9 y10] 0] = T263 (orc C k) k m q0 q1 y1 y2 y3 y4 y5 y6 y7 y8 y9 y10 := by kernel_rfl
theorem E263 (y1 : Nat) (y2 : List V) (y3 : Int) (y4 : Int) (y5 : Int) (y6 : Nat) (y7 : List V) (y8 : Int) (y9 : Nat) (y10 : List V) {r : V} (h : T263 (orcE C) 0 0 0 0 y1 y2 y3 y4 y5 y6 y7 y8 y9 y10 =
 some r) : runE C 263 [V.agg [V.sl y1 y2, V.int .i64 y3, V.int .i64 y4, V.int .i64 y5, V.sl y6 y7, V.int .i64 y8], V.pin [V.sl y9 y10] 0] = some r := ofR (F := fun s => T263 (orc C s.k) s.k s.m 0 0 y1
 y2 y3 y4 y5 y6 y7 y8 y9 y10) (fun k => e263 k k 0 0 y1 y2 y3 y4 y5 y6 y7 y8 y9 y10) (by
  unfold T263
  repeat' first | with_reducible exact cC | with_reducible refine cN cR fun _ => ?_ | with_reducible refine cT fun _ => ?_ | with_reducible refine cB fun _ => ?_ | with_reducible refine cL fun _ _ => ?_ | with_reducible refine cN cC fun _ => ?_ | with_reducible exact cR) h

noncomputable def T295l2 (O : Orc) (k m q0 q1 : Nat) (y1 : Nat) (y2 : List V) (y3 : Nat) (y4 : List V) (y5 : Int) (y6 : Int) (y7 : Int) (y8 : Nat) (y9 : List V) (y10 : Int) (y11 : Int) (y12 : Int) :
 Option V := bif decide (y12 < y11) then must (inB y12 y1) (asSl y2[y12.toNat * 6]? fun x1 x2 => PI.asInt .i64 y2[y12.toNat * 6 + 1]? fun x3 => PI.asInt .i64 y2[y12.toNat * 6 + 1 + 1]? fun x4 =>
 PI.asInt .i64 y2[y12.toNat * 6 + 1 + 1 + 1]? fun x5 => asSl y2[y12.toNat * 6 + 1 + 1 + 1 + 1]? fun x6 x7 => PI.asInt .i64 y2[y12.toNat * 6 + 1 + 1 + 1 + 1 + 1]? fun x8 => need (O.R 0 296 [V.agg [V.sl
 x1 x2, V.int .i64 x3, V.int .i64 x4, V.int .i64 x5, V.sl x6 x7, V.int .i64 x8], V.pin [V.sl y3 y4, V.int .i64 y5, V.int .i64 y6, V.int .i64 y7, V.sl y8 y9, V.int .i64 y10] 0]) fun x9 => asTup (some
 x9) fun x10 => PI.asBool x10[0]? fun x11 => bif x11 then some (V.tup [V.int .i64 y12]) else O.L 0 295 0 [true, false, true] [] m [(0, V.sl y1 y2), (1, V.fn 296 [V.pin [V.sl y3 y4, V.int .i64 y5, V.int
 .i64 y6, V.int .i64 y7, V.sl y8 y9, V.int .i64 y10] 0]), (7, V.int .i64 y11), (8, V.int .i64 (IntKind.i64.wrap (y12 + 1)))] []) else some (V.tup [V.int .i64 (-1)])
theorem e295l2 (k m q0 q1 : Nat) (y1 : Nat) (y2 : List V) (y3 : Nat) (y4 : List V) (y5 : Int) (y6 : Int) (y7 : Int) (y8 : Nat) (y9 : List V) (y10 : Int) (y11 : Int) (y12 : Int) : runL C k 295 0 [true,
 false, true] [] (m + 1) [(0, V.sl y1 y2), (1, V.fn 296 [V.pin [V.sl y3 y4, V.int .i64 y5, V.int .i64 y6, V.int .i64 y7, V.sl y8 y9, V.int .i64 y10] 0]), (7, V.int .i64 y11), (8, V.int .i64 y12)] [] =
 T295l2 (orc C k) k m q0 q1 y1 y2 y3 y4 y5 y6 y7 y8 y9 y10 y11 y12 := by kernel_rfl
theorem E295l2 (y1 : Nat) (y2 : List V) (y3 : Nat) (y4 : List V) (y5 : Int) (y6 : Int) (y7 : Int) (y8 : Nat) (y9 : List V) (y10 : Int) (y11 : Int) (y12 : Int) {r : V} (h : T295l2 (orcE C) 0 0 0 0 y1 y2
 y3 y4 y5 y6 y7 y8 y9 y10 y11 y12 = some r) : loopE C 295 0 [true, false, true] [] [(0, V.sl y1 y2), (1, V.fn 296 [V.pin [V.sl y3 y4, V.int .i64 y5, V.int .i64 y6, V.int .i64 y7, V.sl y8 y9, V.int .i64
 y10] 0]), (7, V.int .i64 y11), (8, V.int .i64 y12)] [] = some r := ofL (j := 0) (F := fun s => T295l2 (orc C s.k) s.k s.m 0 0 y1 y2 y3 y4 y5 y6 y7 y8 y9 y10 y11 y12) (fs0 fun k m => e295l2 k m 0 0 y1
 y2 y3 y4 y5 y6 y7 y8 y9 y10 y11 y12) (by
  unfold T295l2
  repeat' first | with_reducible exact cC | with_reducible refine cN cR fun _ => ?_ | with_reducible refine cT fun _ => ?_ | with_reducible refine cI fun _ => ?_ | with_reducible refine cM ?_ | with_reducible refine cF ?_ ?_ | with_reducible refine cB fun _ => ?_ | with_reducible refine cL fun _ _ => ?_ | with_reducible refine cN cC fun _ => ?_ | with_reducible exact cR | exact cD0 gM) h

noncomputable def T297 (O : Orc) (k m q0 q1 : Nat) (y1 : Nat) (y2 : List V) : Option V := O.X 0 297 [0] [Ob.row 2 0 [] false] 0 [true] [] k [(0, V.ref 0), (2, V.int .i64 0), (3, V.int .i64
 (IntKind.i64.wrap ((↑y1 : Int) - 1)))] [Ob.row 2 y1 y2 false]
theorem e297 (k m q0 q1 : Nat) (y1 : Nat) (y2 : List V) : runW C (k + 1) 297 [0] [V.ref 0] [Ob.row 2 y1 y2 false] = T297 (orc C k) k m q0 q1 y1 y2 := by kernel_rfl
theorem E297 (y1 : Nat) (y2 : List V) {r : V} (h : T297 (orcE C) 0 0 0 0 y1 y2 = some r) : runWE C 297 [0] [V.ref 0] [Ob.row 2 y1 y2 false] = some r := ofW (F := fun s => T297 (orc C s.k) s.k s.m 0 0
 y1 y2) (fun k => e297 k k 0 0 y1 y2) (by
  unfold T297
  repeat' first | with_reducible exact cC | exact cX0 gK) h

noncomputable def T254l1 (O : Orc) (k m q0 q1 : Nat) (y1 : Nat) (y2 : List V) (y3 : Int) (y4 : Int) : Option V := bif decide (y4 < (↑y1 : Int)) then must (inB y4 y1) (PI.asInt .u8 y2[y4.toNat * 1]? fun
 x1 => bif x1 != IntKind.u8.wrap y3 then some (V.tup [V.int .i64 (-1)]) else O.L 0 254 0 [true, false, true] [] m [(0, V.sl y1 y2), (1, V.int .i64 (IntKind.i64.wrap (y3 + 1))), (5, V.int .i64
 (IntKind.i64.wrap (y4 + 1)))] []) else some (V.tup [V.int .i64 y3])
theorem e254l1 (k m q0 q1 : Nat) (y1 : Nat) (y2 : List V) (y3 : Int) (y4 : Int) : runL C k 254 0 [true, false, true] [] (m + 1) [(0, V.sl y1 y2), (1, V.int .i64 y3), (5, V.int .i64 y4)] [] = T254l1
 (orc C k) k m q0 q1 y1 y2 y3 y4 := by kernel_rfl
theorem E254l1 (y1 : Nat) (y2 : List V) (y3 : Int) (y4 : Int) {r : V} (h : T254l1 (orcE C) 0 0 0 0 y1 y2 y3 y4 = some r) : loopE C 254 0 [true, false, true] [] [(0, V.sl y1 y2), (1, V.int .i64 y3), (5,
 V.int .i64 y4)] [] = some r := ofL (j := 0) (F := fun s => T254l1 (orc C s.k) s.k s.m 0 0 y1 y2 y3 y4) (fs0 fun k m => e254l1 k m 0 0 y1 y2 y3 y4) (by
  unfold T254l1
  repeat' first | with_reducible exact cC | with_reducible refine cI fun _ => ?_ | with_reducible refine cM ?_ | with_reducible refine cF ?_ ?_ | exact cD0 gM) h

noncomputable def T243l1 (O : Orc) (k m q0 q1 : Nat) (y1 : Nat) (y2 : List V) (y3 : Nat) (y4 : List V) (y5 : Int) : Option V := bif decide (y5 < (↑y1 : Int)) then bif decide (y5 < (↑y3 : Int)) then
 must (inB y5 y1) (PI.asInt .u8 y2[y5.toNat * 1]? fun x1 => must (inB y5 y3) (PI.asInt .u8 y4[y5.toNat * 1]? fun x2 => bif decide (x1 < x2) then some (V.tup [V.int .i64 (-1)]) else must (inB y5 y1)
 (PI.asInt .u8 y2[y5.toNat * 1]? fun x3 => must (inB y5 y3) (PI.asInt .u8 y4[y5.toNat * 1]? fun x4 => bif decide (x3 > x4) then some (V.tup [V.int .i64 1]) else O.L 0 243 0 [true, false, true] [] m
 [(0, V.sl y1 y2), (1, V.sl y3 y4), (5, V.int .i64 (IntKind.i64.wrap (y5 + 1)))] [])))) else bif decide ((↑y1 : Int) < (↑y3 : Int)) then some (V.tup [V.int .i64 (-1)]) else bif decide ((↑y1 : Int) >
 (↑y3 : Int)) then some (V.tup [V.int .i64 1]) else some (V.tup [V.int .i64 0]) else bif decide ((↑y1 : Int) < (↑y3 : Int)) then some (V.tup [V.int .i64 (-1)]) else bif decide ((↑y1 : Int) > (↑y3 :
 Int)) then some (V.tup [V.int .i64 1]) else some (V.tup [V.int .i64 0])
theorem e243l1 (k m q0 q1 : Nat) (y1 : Nat) (y2 : List V) (y3 : Nat) (y4 : List V) (y5 : Int) : runL C k 243 0 [true, false, true] [] (m + 1) [(0, V.sl y1 y2), (1, V.sl y3 y4), (5, V.int .i64 y5)] [] =
 T243l1 (orc C k) k m q0 q1 y1 y2 y3 y4 y5 := by kernel_rfl
theorem E243l1 (y1 : Nat) (y2 : List V) (y3 : Nat) (y4 : List V) (y5 : Int) {r : V} (h : T243l1 (orcE C) 0 0 0 0 y1 y2 y3 y4 y5 = some r) : loopE C 243 0 [true, false, true] [] [(0, V.sl y1 y2), (1,
 V.sl y3 y4), (5, V.int .i64 y5)] [] = some r := ofL (j := 0) (F := fun s => T243l1 (orc C s.k) s.k s.m 0 0 y1 y2 y3 y4 y5) (fs0 fun k m => e243l1 k m 0 0 y1 y2 y3 y4 y5) (by
  unfold T243l1
  repeat' first | with_reducible exact cC | with_reducible refine cI fun _ => ?_ | with_reducible refine cM ?_ | with_reducible refine cF ?_ ?_ | exact cD0 gM) h

noncomputable def T186l2 (O : Orc) (k m q0 q1 : Nat) (y1 : Nat) (y2 : List V) (y3 : Int) (y4 : Int) (y5 : Int) : Option V := bif decide (y5 ≥ 0) then must (inB y4 y1) (PI.asInt .u8 y2[y4.toNat * 1]?
 fun x1 => must (decide (0 ≤ IntKind.u64.wrap y5)) (bif PI.bits IntKind.u8 (fun x1 x2 => x1 &&& x2) (x1.fdiv (2 ^ min (IntKind.u64.wrap y5).toNat 8)) 1 == 1 then some (V.tup [V.int .i64 y3]) else O.L 0
 186 2 [true, true, false, true, false, true, false, false, true] [q0] m [(0, V.sl y1 y2), (3, V.int .i64 (IntKind.i64.wrap (y3 + 1))), (4, V.int .i64 y4), (5, V.int .i64 (IntKind.i64.wrap (y5 - 1)))]
 [])) else O.L 0 186 0 [true, true, false, true] [] q0 [(0, V.sl y1 y2), (3, V.int .i64 y3), (4, V.int .i64 (IntKind.i64.wrap (y4 + 1)))] []
theorem e186l2 (k m q0 q1 : Nat) (y1 : Nat) (y2 : List V) (y3 : Int) (y4 : Int) (y5 : Int) : runL C k 186 2 [true, true, false, true, false, true, false, false, true] [q0] (m + 1) [(0, V.sl y1 y2), (3,
 V.int .i64 y3), (4, V.int .i64 y4), (5, V.int .i64 y5)] [] = T186l2 (orc C k) k m q0 q1 y1 y2 y3 y4 y5 := by kernel_rfl
theorem E186l2 (y1 : Nat) (y2 : List V) (y3 : Int) (y4 : Int) (y5 : Int) {r : V} (h : T186l2 (orcE C) 0 0 0 0 y1 y2 y3 y4 y5 = some r) : loopE C 186 2 [true, true, false, true, false, true, false,
 false, true] [0] [(0, V.sl y1 y2), (3, V.int .i64 y3), (4, V.int .i64 y4), (5, V.int .i64 y5)] [] = some r := ofL (j := 0) (F := fun s => T186l2 (orc C s.k) s.k s.m (s.fs.getD 0 0) 0 y1 y2 y3 y4 y5)
 (fs1 fun k m q0 => e186l2 k m q0 0 y1 y2 y3 y4 y5) (by
  unfold T186l2
  repeat' first | with_reducible exact cC | with_reducible refine cI fun _ => ?_ | with_reducible refine cM ?_ | with_reducible refine cF ?_ ?_ | exact cD0 (gF (i := 0) (by decide)) | exact cD1 gM (gF (i := 0) (by decide))) h

noncomputable def T251l1 (O : Orc) (k m q0 q1 : Nat) (y1 : Nat) (y2 : List V) (y3 : Nat) (y4 : List V) : Option V := bif (↑y3 : Int).tmod 64 != 56 then must (true && (y3 + 1).ble 140737488355328 &&
 ((y3 + 1) * 1).ble 140737488355328) (O.L 0 251 0 [true, true, false] [] m [(0, V.sl y1 y2), (3, V.ref 0)] [Ob.row 5 (y3 + 1) (y4 ++ [V.int .u8 0]) false]) else O.L 0 251 2 [true, true, true, true,
 false, true] [] k [(3, V.ref 0), (4, V.int .i64 (IntKind.i64.wrap ((↑y1 : Int) * 8))), (5, V.int .i64 7)] [Ob.row 5 y3 y4 false]
theorem e251l1 (k m q0 q1 : Nat) (y1 : Nat) (y2 : List V) (y3 : Nat) (y4 : List V) : runL C k 251 0 [true, true, false] [] (m + 1) [(0, V.sl y1 y2), (3, V.ref 0)] [Ob.row 5 y3 y4 false] = T251l1 (orc C
 k) k m q0 q1 y1 y2 y3 y4 := by kernel_rfl
theorem E251l1 (y1 : Nat) (y2 : List V) (y3 : Nat) (y4 : List V) {r : V} (h : T251l1 (orcE C) 0 0 0 0 y1 y2 y3 y4 = some r) : loopE C 251 0 [true, true, false] [] [(0, V.sl y1 y2), (3, V.ref 0)]
 [Ob.row 5 y3 y4 false] = some r := ofL (j := 0) (F := fun s => T251l1 (orc C s.k) s.k s.m 0 0 y1 y2 y3 y4) (fs0 fun k m => e251l1 k m 0 0 y1 y2 y3 y4) (by
  unfold T251l1
  repeat' first | with_reducible exact cC | with_reducible refine cM ?_ | with_reducible refine cF ?_ ?_ | exact cD0 gK | exact cD0 gM) h

noncomputable def T187l2 (O : Orc) (k m q0 q1 : Nat) (y1 : Nat) (y2 : List V) (y3 : Int) (y4 : Int) (y5 : List V) (y6 : List V) (y7 : List V) : Option V := bif decide (y4 < 16) then must (decide (0 ≤
 IntKind.i64.wrap (IntKind.i64.wrap (y3 + IntKind.i64.wrap (4 * y4)) + 4)) && decide (IntKind.i64.wrap (IntKind.i64.wrap (y3 + IntKind.i64.wrap (4 * y4)) + 4) ≤ (↑y1 : Int))) (must (decide (0 ≤
 IntKind.i64.wrap (y3 + IntKind.i64.wrap (4 * y4))) && decide (IntKind.i64.wrap (y3 + IntKind.i64.wrap (4 * y4)) ≤ (↑(IntKind.i64.wrap (IntKind.i64.wrap (y3 + IntKind.i64.wrap (4 * y4)) + 4)).toNat :
 Int))) (need (O.R 0 230 [V.sl ((IntKind.i64.wrap (IntKind.i64.wrap (y3 + IntKind.i64.wrap (4 * y4)) + 4)).toNat - (IntKind.i64.wrap (y3 + IntKind.i64.wrap (4 * y4))).toNat) (List.take
 (((IntKind.i64.wrap (IntKind.i64.wrap (y3 + IntKind.i64.wrap (4 * y4)) + 4)).toNat - (IntKind.i64.wrap (y3 + IntKind.i64.wrap (4 * y4))).toNat) * 1) (List.drop ((IntKind.i64.wrap (y3 +
 IntKind.i64.wrap (4 * y4))).toNat * 1) y2))]) fun x1 => asTup (some x1) fun x2 => PI.asInt .i64 x2[0]? fun x3 => must (inB y4 64) (must ((V.int .i64 x3).solid && true && (0 + y4.toNat * 1 + 1).ble
 y7.length && flatB C 280 [V.int .i64 x3]) (O.L 0 187 2 [true, true, true, true, false, true, false, true, false, false, true, false, true] [q0] m [(3, V.ptr 0 0), (4, V.ptr 1 0), (5, V.sl y1 y2), (6,
 V.int .i64 y3), (7, V.ptr 2 0), (8, V.int .i64 (IntKind.i64.wrap (y4 + 1)))] [Ob.box 280 y5 false, Ob.box 282 y6 false, Ob.box 280 (splice y7 (0 + y4.toNat * 1) [V.int .i64 x3]) false])))) else O.L 0
 187 4 [true, true, true, true, false, true, false, true, false, false, true, true, false, true] [q0] k [(3, V.ptr 0 0), (4, V.ptr 1 0), (5, V.sl y1 y2), (6, V.int .i64 y3), (7, V.ptr 2 0), (9, V.int
 .i64 16)] [Ob.box 280 y5 false, Ob.box 282 y6 false, Ob.box 280 y7 false]
theorem e187l2 (k m q0 q1 : Nat) (y1 : Nat) (y2 : List V) (y3 : Int) (y4 : Int) (y5 : List V) (y6 : List V) (y7 : List V) : runL C k 187 2 [true, true, true, true, false, true, false, true, false,
 false, true, false, true] [q0] (m + 1) [(3, V.ptr 0 0), (4, V.ptr 1 0), (5, V.sl y1 y2), (6, V.int .i64 y3), (7, V.ptr 2 0), (8, V.int .i64 y4)] [Ob.box 280 y5 false, Ob.box 282 y6 false, Ob.box 280
 y7 false] = T187l2 (orc C k) k m q0 q1 y1 y2 y3 y4 y5 y6 y7 := by kernel_rfl
theorem E187l2 (y1 : Nat) (y2 : List V) (y3 : Int) (y4 : Int) (y5 : List V) (y6 : List V) (y7 : List V) {r : V} (h : T187l2 (orcE C) 0 0 0 0 y1 y2 y3 y4 y5 y6 y7 = some r) : loopE C 187 2 [true, true,
 true, true, false, true, false, true, false, false, true, false, true] [0] [(3, V.ptr 0 0), (4, V.ptr 1 0), (5, V.sl y1 y2), (6, V.int .i64 y3), (7, V.ptr 2 0), (8, V.int .i64 y4)] [Ob.box 280 y5
 false, Ob.box 282 y6 false, Ob.box 280 y7 false] = some r := ofL (j := 0) (F := fun s => T187l2 (orc C s.k) s.k s.m (s.fs.getD 0 0) 0 y1 y2 y3 y4 y5 y6 y7) (fs1 fun k m q0 => e187l2 k m q0 0 y1 y2 y3
 y4 y5 y6 y7) (by
  unfold T187l2
  repeat' first | with_reducible exact cC | with_reducible refine cN cR fun _ => ?_ | with_reducible refine cT fun _ => ?_ | with_reducible refine cI fun _ => ?_ | with_reducible refine cM ?_ | with_reducible refine cF ?_ ?_ | with_reducible refine cN cC fun _ => ?_ | with_reducible exact cR | exact cD1 gK (gF (i := 0) (by decide)) | exact cD1 gM (gF (i := 0) (by decide))) h

noncomputable def T187l3 (O : Orc) (k m q0 q1 : Nat) (y1 : Int) (y2 : List V) (y3 : Nat) (y4 : List V) : Option V := bif decide (y1 < 8) then O.L 0 187 12 [true, true, true, true, true, true, false,
 true, false, true, false, false, true] [m] k [(4, V.ptr 0 0), (17, V.ref 1), (18, V.int .i64 y1), (19, V.int .i64 3)] [Ob.box 282 y2 false, Ob.row 5 y3 y4 false] else must (false || y4.all flatV)
 (some (V.tup [V.osl y3 y4]))
theorem e187l3 (k m q0 q1 : Nat) (y1 : Int) (y2 : List V) (y3 : Nat) (y4 : List V) : runL C k 187 10 [true, true, true, true, true, true, false, true] [] (m + 1) [(4, V.ptr 0 0), (17, V.ref 1), (18,
 V.int .i64 y1)] [Ob.box 282 y2 false, Ob.row 5 y3 y4 false] = T187l3 (orc C k) k m q0 q1 y1 y2 y3 y4 := by kernel_rfl
theorem E187l3 (y1 : Int) (y2 : List V) (y3 : Nat) (y4 : List V) {r : V} (h : T187l3 (orcE C) 0 0 0 0 y1 y2 y3 y4 = some r) : loopE C 187 10 [true, true, true, true, true, true, false, true] [] [(4,
 V.ptr 0 0), (17, V.ref 1), (18, V.int .i64 y1)] [Ob.box 282 y2 false, Ob.row 5 y3 y4 false] = some r := ofL (j := 0) (F := fun s => T187l3 (orc C s.k) s.k s.m 0 0 y1 y2 y3 y4) (fs0 fun k m => e187l3 k
 m 0 0 y1 y2 y3 y4) (by
  unfold T187l3
  repeat' first | with_reducible exact cC | with_reducible refine cM ?_ | with_reducible refine cF ?_ ?_ | exact cD1 gK gM) h

noncomputable def T211l1 (O : Orc) (k m q0 q1 : Nat) (y1 : Nat) (y2 : List V) (y3 : Int) (y4 : Int) : Option V := bif decide (y4 < y3) then must (inB y4 y1) (must (decide (y4.toNat * 1 < y2.length))
 (asSl y2[y4.toNat * 1]? fun x1 x2 => need (O.R 0 247 [V.sl x1 x2]) fun x3 => asTup (some x3) fun x4 => PI.asBool x4[0]? fun x5 => bif x5 then some (V.tup [V.int .i64 y4]) else O.L 0 211 0 [true,
 false, true] [] m [(0, V.sl y1 y2), (1, V.fn 247 []), (7, V.int .i64 y3), (8, V.int .i64 (IntKind.i64.wrap (y4 + 1)))] [])) else some (V.tup [V.int .i64 (-1)])
theorem e211l1 (k m q0 q1 : Nat) (y1 : Nat) (y2 : List V) (y3 : Int) (y4 : Int) : runL C k 211 0 [true, false, true] [] (m + 1) [(0, V.sl y1 y2), (1, V.fn 247 []), (7, V.int .i64 y3), (8, V.int .i64
 y4)] [] = T211l1 (orc C k) k m q0 q1 y1 y2 y3 y4 := by kernel_rfl
theorem E211l1 (y1 : Nat) (y2 : List V) (y3 : Int) (y4 : Int) {r : V} (h : T211l1 (orcE C) 0 0 0 0 y1 y2 y3 y4 = some r) : loopE C 211 0 [true, false, true] [] [(0, V.sl y1 y2), (1, V.fn 247 []), (7,
 V.int .i64 y3), (8, V.int .i64 y4)] [] = some r := ofL (j := 0) (F := fun s => T211l1 (orc C s.k) s.k s.m 0 0 y1 y2 y3 y4) (fs0 fun k m => e211l1 k m 0 0 y1 y2 y3 y4) (by
  unfold T211l1
  repeat' first | with_reducible exact cC | with_reducible refine cN cR fun _ => ?_ | with_reducible refine cT fun _ => ?_ | with_reducible refine cM ?_ | with_reducible refine cF ?_ ?_ | with_reducible refine cB fun _ => ?_ | with_reducible refine cL fun _ _ => ?_ | with_reducible refine cN cC fun _ => ?_ | with_reducible exact cR | exact cD0 gM) h

noncomputable def T114 (O : Orc) (k m q0 q1 : Nat) (y1 : Int) : Option V := need (O.R 0 189 [V.int .u8 y1]) fun x1 => asTup (some x1) fun x2 => PI.asInt .i64 x2[0]? fun x3 => some (V.tup [V.int .i64
 (IntKind.i64.wrap (8 - x3))])
theorem e114 (k m q0 q1 : Nat) (y1 : Int) : runV C (k + 1) 114 [V.int .u8 y1] = T114 (orc C k) k m q0 q1 y1 := by kernel_rfl
theorem E114 (y1 : Int) {r : V} (h : T114 (orcE C) 0 0 0 0 y1 = some r) : runE C 114 [V.int .u8 y1] = some r := ofR (F := fun s => T114 (orc C s.k) s.k s.m 0 0 y1) (fun k => e114 k k 0 0 y1) (by
  unfold T114
  repeat' first | with_reducible exact cC | with_reducible refine cN cR fun _ => ?_ | with_reducible refine cT fun _ => ?_ | with_reducible refine cI fun _ => ?_ | with_reducible refine cN cC fun _ => ?_ | with_reducible exact cR) h

noncomputable def T182l1 (O : Orc) (k m q0 q1 : Nat) (y1 : Nat) (y2 : List V) (y3 : Int) (y4 : Int) (y5 : Nat) (y6 : List V) : Option V := bif decide (y4 < y3) then must (inB y4 y1) (must (decide
 (y4.toNat * 1 < y2.length)) (asSl y2[y4.toNat * 1]? fun x1 x2 => bif decide ((↑x1 : Int) > 200) then some (V.tup [V.sl 0 [], V.bool false]) else asSl y2[y4.toNat * 1]? fun x3 x4 => bif decide
 (IntKind.i64.wrap (IntKind.i64.wrap ((↑y5 : Int) + 1) + (↑x3 : Int)) > 4000) then some (V.tup [V.sl 0 [], V.bool false]) else asSl y2[y4.toNat * 1]? fun x5 x6 => must (true && (y5 + 1).ble
 140737488355328 && ((y5 + 1) * 1).ble 140737488355328) (asSl y2[y4.toNat * 1]? fun x7 x8 => must (decide (x8.length = x7 * 1)) (must (true && (y5 + 1 + x7).ble 140737488355328 && ((y5 + 1 + x7) *
 1).ble 140737488355328) (O.L 0 182 0 [true, true, true, false, true] [] m [(4, V.ref 0), (11, V.sl y1 y2), (12, V.int .i64 y3), (13, V.int .i64 (IntKind.i64.wrap (y4 + 1)))] [Ob.row 5 (y5 + 1 + x7)
 (y6 ++ [V.int .u8 (IntKind.u8.wrap (↑x5 : Int))] ++ x8) false]))))) else some (V.tup [V.sl y5 y6, V.bool true])
theorem e182l1 (k m q0 q1 : Nat) (y1 : Nat) (y2 : List V) (y3 : Int) (y4 : Int) (y5 : Nat) (y6 : List V) : runL C k 182 0 [true, true, true, false, true] [] (m + 1) [(4, V.ref 0), (11, V.sl y1 y2),
 (12, V.int .i64 y3), (13, V.int .i64 y4)] [Ob.row 5 y5 y6 false] = T182l1 (orc C k) k m q0 q1 y1 y2 y3 y4 y5 y6 := by kernel_rfl
theorem E182l1 (y1 : Nat) (y2 : List V) (y3 : Int) (y4 : Int) (y5 : Nat) (y6 : List V) {r : V} (h : T182l1 (orcE C) 0 0 0 0 y1 y2 y3 y4 y5 y6 = some r) : loopE C 182 0 [true, true, true, false, true]
 [] [(4, V.ref 0), (11, V.sl y1 y2), (12, V.int .i64 y3), (13, V.int .i64 y4)] [Ob.row 5 y5 y6 false] = some r := ofL (j := 0) (F := fun s => T182l1 (orc C s.k) s.k s.m 0 0 y1 y2 y3 y4 y5 y6) (fs0 fun
 k m => e182l1 k m 0 0 y1 y2 y3 y4 y5 y6) (by
  unfold T182l1
  repeat' first | with_reducible exact cC | with_reducible refine cM ?_ | with_reducible refine cF ?_ ?_ | with_reducible refine cL fun _ _ => ?_ | exact cD0 gM) h

noncomputable def T183l2 (O : Orc) (k m q0 q1 : Nat) (y1 : Int) (y2 : Nat) (y3 : List V) : Option V := bif (↑y2 : Int).tmod 64 != 56 then must (true && (y2 + 1).ble 140737488355328 && ((y2 + 1) *
 1).ble 140737488355328) (O.L 0 183 2 [true, true, true, true, true, false] [] m [(3, V.ref 0), (6, V.int .u64 y1)] [Ob.row 5 (y2 + 1) (y3 ++ [V.int .u8 0]) false]) else O.L 0 183 4 [true, true, true,
 true, true, true, false, true] [] k [(3, V.ref 0), (6, V.int .u64 y1), (7, V.int .i64 56)] [Ob.row 5 y2 y3 false]
theorem e183l2 (k m q0 q1 : Nat) (y1 : Int) (y2 : Nat) (y3 : List V) : runL C k 183 2 [true, true, true, true, true, false] [] (m + 1) [(3, V.ref 0), (6, V.int .u64 y1)] [Ob.row 5 y2 y3 false] = T183l2
 (orc C k) k m q0 q1 y1 y2 y3 := by kernel_rfl
theorem E183l2 (y1 : Int) (y2 : Nat) (y3 : List V) {r : V} (h : T183l2 (orcE C) 0 0 0 0 y1 y2 y3 = some r) : loopE C 183 2 [true, true, true, true, true, false] [] [(3, V.ref 0), (6, V.int .u64 y1)]
 [Ob.row 5 y2 y3 false] = some r := ofL (j := 0) (F := fun s => T183l2 (orc C s.k) s.k s.m 0 0 y1 y2 y3) (fs0 fun k m => e183l2 k m 0 0 y1 y2 y3) (by
  unfold T183l2
  repeat' first | with_reducible exact cC | with_reducible refine cM ?_ | with_reducible refine cF ?_ ?_ | exact cD0 gK | exact cD0 gM) h

noncomputable def T296 (O : Orc) (k m q0 q1 : Nat) (y1 : Nat) (y2 : List V) (y3 : Int) (y4 : Int) (y5 : Int) (y6 : Nat) (y7 : List V) (y8 : Int) (y9 : Nat) (y10 : List V) (y11 : Int) (y12 : Int) (y13 :
 Int) (y14 : Nat) (y15 : List V) (y16 : Int) : Option V := need (O.R 0 104 [V.agg [V.sl y1 y2, V.int .i64 y3, V.int .i64 y4, V.int .i64 y5, V.sl y6 y7, V.int .i64 y8]]) fun x1 => asTup (some x1) fun x2
 => asSl x2[0]? fun x3 x4 => need (O.R 0 107 [V.sl x3 x4, V.sl y9 y10]) fun x5 => asTup (some x5) fun x6 => PI.asBool x6[0]? fun x7 => some (V.tup [V.bool x7])
theorem e296 (k m q0 q1 : Nat) (y1 : Nat) (y2 : List V) (y3 : Int) (y4 : Int) (y5 : Int) (y6 : Nat) (y7 : List V) (y8 : Int) (y9 : Nat) (y10 : List V) (y11 : Int) (y12 : Int) (y13 : Int) (y14 : Nat)
 (y15 : List V) (y16 : Int) : runV C (k + 1) 296 [V.agg [V.sl y1 y2, V.int .i64 y3, V.int .i64 y4, V.int .i64 y5, V.sl y6 y7, V.int .i64 y8], V.pin [V.sl y9 y10, V.int .i64 y11, V.int .i64 y12, V.int
 .i64 y13, V.sl y14 y15, V.int .i64 y16] 0] = T296 (orc C k) k m q0 q1 y1 y2 y3 y4 y5 y6 y7 y8 y9 y10 y11 y12 y13 y14 y15 y16 := by kernel_rfl
theorem E296 (y1 : Nat) (y2 : List V) (y3 : Int) (y4 : Int) (y5 : Int) (y6 : Nat) (y7 : List V) (y8 : Int) (y9 : Nat) (y10 : List V) (y11 : Int) (y12 : Int) (y13 : Int) (y14 : Nat) (y15 : List V) (y16
 : Int) {r : V} (h : T296 (orcE C) 0 0 0 0 y1 y2 y3 y4 y5 y6 y7 y8 y9 y10 y11 y12 y13 y14 y15 y16 = some r) : runE C 296 [V.agg [V.sl y1 y2, V.int .i64 y3, V.int .i64 y4, V.int .i64 y5, V.sl y6 y7,
 V.int .i64 y8], V.pin [V.sl y9 y10, V.int .i64 y11, V.int .i64 y12, V.int .i64 y13, V.sl y14 y15, V.int .i64 y16] 0] = some r := ofR (F := fun s => T296 (orc C s.k) s.k s.m 0 0 y1 y2 y3 y4 y5 y6 y7 y8
 y9 y10 y11 y12 y13 y14 y15 y16) (fun k => e296 k k 0 0 y1 y2 y3 y4 y5 y6 y7 y8 y9 y10 y11 y12 y13 y14 y15 y16) (by
  unfold T296
  repeat' first | with_reducible exact cC | with_reducible refine cN cR fun _ => ?_ | with_reducible refine cT fun _ => ?_ | with_reducible refine cB fun _ => ?_ | with_reducible refine cL fun _ _ => ?_ | with_reducible refine cN cC fun _ => ?_ | with_reducible exact cR) h

noncomputable def T297l1 (O : Orc) (k m q0 q1 : Nat) (y1 : Int) (y2 : Int) (y3 : Nat) (y4 : List V) : Option V := bif decide (y1 < y2) then must (inB y2 y3) (must (inB y1 y3) (both (PI.asInt .i64
 y4[y2.toNat * 1]? fun x1 => PI.asInt .i64 y4[y1.toNat * 1]? fun x2 => must (inB y1 y3) (must ([V.int .i64 x1].length.beq 1 && (y1.toNat * 1 + [V.int .i64 x1].length).ble y4.length) (must (inB y2 y3)
 (must ([V.int .i64 x2].length.beq 1 && (y2.toNat * 1 + [V.int .i64 x2].length).ble (splice y4 (y1.toNat * 1) [V.int .i64 x1]).length) (O.X 0 297 [0] [Ob.row 2 0 [] false] 0 [true] [] m [(0, V.ref 0),
 (2, V.int .i64 (IntKind.i64.wrap (y1 + 1))), (3, V.int .i64 (IntKind.i64.wrap (y2 - 1)))] [Ob.row 2 y3 (splice (splice y4 (y1.toNat * 1) [V.int .i64 x1]) (y2.toNat * 1) [V.int .i64 x2]) false])))))
 (PI.asInt .i64 y4[y1.toNat * 1]? fun x3 => PI.asInt .i64 y4[y2.toNat * 1]? fun x4 => must (inB y1 y3) (must ([V.int .i64 x4].length.beq 1 && (y1.toNat * 1 + [V.int .i64 x4].length).ble y4.length)
 (must (inB y2 y3) (must ([V.int .i64 x3].length.beq 1 && (y2.toNat * 1 + [V.int .i64 x3].length).ble (splice y4 (y1.toNat * 1) [V.int .i64 x4]).length) (O.X 0 297 [0] [Ob.row 2 0 [] false] 0 [true] []
 m [(0, V.ref 0), (2, V.int .i64 (IntKind.i64.wrap (y1 + 1))), (3, V.int .i64 (IntKind.i64.wrap (y2 - 1)))] [Ob.row 2 y3 (splice (splice y4 (y1.toNat * 1) [V.int .i64 x4]) (y2.toNat * 1) [V.int .i64
 x3]) false]))))))) else must (false || y4.all flatV) (some (V.tup [V.osl y3 y4]))
theorem e297l1 (k m q0 q1 : Nat) (y1 : Int) (y2 : Int) (y3 : Nat) (y4 : List V) : runLW C k 297 [0] [Ob.row 2 0 [] false] 0 [true] [] (m + 1) [(0, V.ref 0), (2, V.int .i64 y1), (3, V.int .i64 y2)]
 [Ob.row 2 y3 y4 false] = T297l1 (orc C k) k m q0 q1 y1 y2 y3 y4 := by kernel_rfl
theorem E297l1 (y1 : Int) (y2 : Int) (y3 : Nat) (y4 : List V) {r : V} (h : T297l1 (orcE C) 0 0 0 0 y1 y2 y3 y4 = some r) : loopWE C 297 [0] [Ob.row 2 0 [] false] 0 [true] [] [(0, V.ref 0), (2, V.int
 .i64 y1), (3, V.int .i64 y2)] [Ob.row 2 y3 y4 false] = some r := ofX (j := 0) (F := fun s => T297l1 (orc C s.k) s.k s.m 0 0 y1 y2 y3 y4) (fs0 fun k m => e297l1 k m 0 0 y1 y2 y3 y4) (by
  unfold T297l1
  repeat' first | with_reducible exact cC | with_reducible refine cI fun _ => ?_ | with_reducible refine cM ?_ | with_reducible refine cF ?_ ?_ | with_reducible refine cW ?_ ?_ | exact cX0 gM) h

noncomputable def T251l2 (O : Orc) (k m q0 q1 : Nat) (y1 : Int) (y2 : Int) (y3 : Nat) (y4 : List V) : Option V := bif decide (y2 ≥ 0) then must (decide (0 ≤ IntKind.u64.wrap (IntKind.i64.wrap (8 *
 y2)))) (must (true && (y3 + 1).ble 140737488355328 && ((y3 + 1) * 1).ble 140737488355328) (O.L 0 251 2 [true, true, true, true, false, true] [] m [(3, V.ref 0), (4, V.int .i64 y1), (5, V.int .i64
 (IntKind.i64.wrap (y2 - 1)))] [Ob.row 5 (y3 + 1) (y4 ++ [V.int .u8 (IntKind.u8.wrap (y1.fdiv (2 ^ min (IntKind.u64.wrap (IntKind.i64.wrap (8 * y2))).toNat 64)))]) false])) else some (V.tup [V.sl y3
 y4])
theorem e251l2 (k m q0 q1 : Nat) (y1 : Int) (y2 : Int) (y3 : Nat) (y4 : List V) : runL C k 251 2 [true, true, true, true, false, true] [] (m + 1) [(3, V.ref 0), (4, V.int .i64 y1), (5, V.int .i64 y2)]
 [Ob.row 5 y3 y4 false] = T251l2 (orc C k) k m q0 q1 y1 y2 y3 y4 := by kernel_rfl
theorem E251l2 (y1 : Int) (y2 : Int) (y3 : Nat) (y4 : List V) {r : V} (h : T251l2 (orcE C) 0 0 0 0 y1 y2 y3 y4 = some r) : loopE C 251 2 [true, true, true, true, false, true] [] [(3, V.ref 0), (4,
 V.int .i64 y1), (5, V.int .i64 y2)] [Ob.row 5 y3 y4 false] = some r := ofL (j := 0) (F := fun s => T251l2 (orc C s.k) s.k s.m 0 0 y1 y2 y3 y4) (fs0 fun k m => e251l2 k m 0 0 y1 y2 y3 y4) (by
  unfold T251l2
  repeat' first | with_reducible exact cC | with_reducible refine cM ?_ | with_reducible refine cF ?_ ?_ | exact cD0 gM) h

noncomputable def T230 (O : Orc) (k m q0 q1 : Nat) (y1 : Nat) (y2 : List V) : Option V := O.L 0 230 0 [true, true, false, true] [] k [(0, V.sl y1 y2), (3, V.int .i64 0), (4, V.int .i64 0)] []
theorem e230 (k m q0 q1 : Nat) (y1 : Nat) (y2 : List V) : runV C (k + 1) 230 [V.sl y1 y2] = T230 (orc C k) k m q0 q1 y1 y2 := by kernel_rfl
theorem E230 (y1 : Nat) (y2 : List V) {r : V} (h : T230 (orcE C) 0 0 0 0 y1 y2 = some r) : runE C 230 [V.sl y1 y2] = some r := ofR (F := fun s => T230 (orc C s.k) s.k s.m 0 0 y1 y2) (fun k => e230 k k
 0 0 y1 y2) (by
  unfold T230
  repeat' first | with_reducible exact cC | exact cD0 gK) h

noncomputable def T187l4 (O : Orc) (k m q0 q1 : Nat) (y1 : Nat) (y2 : List V) (y3 : Int) (y4 : Int) (y5 : List V) (y6 : List V) (y7 : List V) : Option V := bif decide (y4 < 64) then must (inB
 (IntKind.i64.wrap (y4 - 15)) 64) (PI.asInt .i64 y7[0 + (IntKind.i64.wrap (y4 - 15)).toNat * 1]? fun x1 => must (inB (IntKind.i64.wrap (y4 - 2)) 64) (PI.asInt .i64 y7[0 + (IntKind.i64.wrap (y4 -
 2)).toNat * 1]? fun x2 => need (O.R 0 252 [V.int .i64 x1, V.int .u64 7]) fun x3 => asTup (some x3) fun x4 => PI.asInt .i64 x4[0]? fun x5 => need (O.R 0 252 [V.int .i64 x1, V.int .u64 18]) fun x6 =>
 asTup (some x6) fun x7 => PI.asInt .i64 x7[0]? fun x8 => need (O.R 0 252 [V.int .i64 x2, V.int .u64 17]) fun x9 => asTup (some x9) fun x10 => PI.asInt .i64 x10[0]? fun x11 => need (O.R 0 252 [V.int
 .i64 x2, V.int .u64 19]) fun x12 => asTup (some x12) fun x13 => PI.asInt .i64 x13[0]? fun x14 => must (inB (IntKind.i64.wrap (y4 - 7)) 64) (PI.asInt .i64 y7[0 + (IntKind.i64.wrap (y4 - 7)).toNat * 1]?
 fun x15 => must (inB (IntKind.i64.wrap (y4 - 16)) 64) (PI.asInt .i64 y7[0 + (IntKind.i64.wrap (y4 - 16)).toNat * 1]? fun x16 => must (inB y4 64) (must ((V.int .i64 ((IntKind.i64.wrap (IntKind.i64.wrap
 (IntKind.i64.wrap (PI.bits IntKind.i64 (fun x1 x2 => x1 ^^^ x2) (PI.bits IntKind.i64 (fun x1 x2 => x1 ^^^ x2) x11 x14) (x2.fdiv 1024) + x15) + PI.bits IntKind.i64 (fun x1 x2 => x1 ^^^ x2) (PI.bits
 IntKind.i64 (fun x1 x2 => x1 ^^^ x2) x5 x8) (x1.fdiv 8)) + x16)).tmod 4294967296)).solid && true && (0 + y4.toNat * 1 + 1).ble y7.length && flatB C 280 [V.int .i64 ((IntKind.i64.wrap (IntKind.i64.wrap
 (IntKind.i64.wrap (PI.bits IntKind.i64 (fun x1 x2 => x1 ^^^ x2) (PI.bits IntKind.i64 (fun x1 x2 => x1 ^^^ x2) x11 x14) (x2.fdiv 1024) + x15) + PI.bits IntKind.i64 (fun x1 x2 => x1 ^^^ x2) (PI.bits
 IntKind.i64 (fun x1 x2 => x1 ^^^ x2) x5 x8) (x1.fdiv 8)) + x16)).tmod 4294967296)]) (O.L 0 187 4 [true, true, true, true, false, true, false, true, false, false, true, true, false, true] [q0] m [(3,
 V.ptr 0 0), (4, V.ptr 1 0), (5, V.sl y1 y2), (6, V.int .i64 y3), (7, V.ptr 2 0), (9, V.int .i64 (IntKind.i64.wrap (y4 + 1)))] [Ob.box 280 y5 false, Ob.box 282 y6 false, Ob.box 280 (splice y7 (0 +
 y4.toNat * 1) [V.int .i64 ((IntKind.i64.wrap (IntKind.i64.wrap (IntKind.i64.wrap (PI.bits IntKind.i64 (fun x1 x2 => x1 ^^^ x2) (PI.bits IntKind.i64 (fun x1 x2 => x1 ^^^ x2) x11 x14) (x2.fdiv 1024) +
 x15) + PI.bits IntKind.i64 (fun x1 x2 => x1 ^^^ x2) (PI.bits IntKind.i64 (fun x1 x2 => x1 ^^^ x2) x5 x8) (x1.fdiv 8)) + x16)).tmod 4294967296)]) false])))))) else PI.asInt .i64 y6[0]? fun x17 =>
 PI.asInt .i64 y6[1]? fun x18 => PI.asInt .i64 y6[2]? fun x19 => PI.asInt .i64 y6[3]? fun x20 => PI.asInt .i64 y6[4]? fun x21 => PI.asInt .i64 y6[5]? fun x22 => PI.asInt .i64 y6[6]? fun x23 => PI.asInt
 .i64 y6[7]? fun x24 => O.L 0 187 6 [true, true, true, true, false, true, false, true, false, false, true, true, true, true, false, true] [q0] k [(3, V.ptr 0 0), (4, V.ptr 1 0), (5, V.sl y1 y2), (6,
 V.int .i64 y3), (7, V.ptr 2 0), (14, V.ptr 3 0), (15, V.int .i64 0)] [Ob.box 280 y5 false, Ob.box 282 y6 false, Ob.box 280 y7 false, Ob.box 282 [V.int .i64 x17, V.int .i64 x18, V.int .i64 x19, V.int
 .i64 x20, V.int .i64 x21, V.int .i64 x22, V.int .i64 x23, V.int .i64 x24] false]
theorem e187l4 (k m q0 q1 : Nat) (y1 : Nat) (y2 : List V) (y3 : Int) (y4 : Int) (y5 : List V) (y6 : List V) (y7 : List V) : runL C k 187 4 [true, true, true, true, false, true, false, true, false,
 false, true, true, false, true] [q0] (m + 1) [(3, V.ptr 0 0), (4, V.ptr 1 0), (5, V.sl y1 y2), (6, V.int .i64 y3), (7, V.ptr 2 0), (9, V.int .i64 y4)] [Ob.box 280 y5 false, Ob.box 282 y6 false, Ob.box
 280 y7 false] = T187l4 (orc C k) k m q0 q1 y1 y2 y3 y4 y5 y6 y7 := by kernel_rfl
theorem E187l4 (y1 : Nat) (y2 : List V) (y3 : Int) (y4 : Int) (y5 : List V) (y6 : List V) (y7 : List V) {r : V} (h : T187l4 (orcE C) 0 0 0 0 y1 y2 y3 y4 y5 y6 y7 = some r) : loopE C 187 4 [true, true,
 true, true, false, true, false, true, false, false, true, true, false, true] [0] [(3, V.ptr 0 0), (4, V.ptr 1 0), (5, V.sl y1 y2), (6, V.int .i64 y3), (7, V.ptr 2 0), (9, V.int .i64 y4)] [Ob.box 280
 y5 false, Ob.box 282 y6 false, Ob.box 280 y7 false] = some r := ofL (j := 0) (F := fun s => T187l4 (orc C s.k) s.k s.m (s.fs.getD 0 0) 0 y1 y2 y3 y4 y5 y6 y7) (fs1 fun k m q0 => e187l4 k m q0 0 y1 y2
 y3 y4 y5 y6 y7) (by
  unfold T187l4
  repeat' first | with_reducible exact cC | with_reducible refine cN cR fun _ => ?_ | with_reducible refine cT fun _ => ?_ | with_reducible refine cI fun _ => ?_ | with_reducible refine cM ?_ | with_reducible refine cF ?_ ?_ | with_reducible refine cN cC fun _ => ?_ | with_reducible exact cR | exact cD1 gK (gF (i := 0) (by decide)) | exact cD1 gM (gF (i := 0) (by decide))) h

noncomputable def T187l5 (O : Orc) (k m q0 q1 : Nat) (y1 : Int) (y2 : Int) (y3 : List V) (y4 : Nat) (y5 : List V) : Option V := bif decide (y2 ≥ 0) then must (inB y1 8) (PI.asInt .i64 y3[0 + y1.toNat *
 1]? fun x1 => must (decide (0 ≤ IntKind.u64.wrap (IntKind.i64.wrap (8 * y2)))) (must (true && (y4 + 1).ble 140737488355328 && ((y4 + 1) * 1).ble 140737488355328) (O.L 0 187 12 [true, true, true, true,
 true, true, false, true, false, true, false, false, true] [q0] m [(4, V.ptr 0 0), (17, V.ref 1), (18, V.int .i64 y1), (19, V.int .i64 (IntKind.i64.wrap (y2 - 1)))] [Ob.box 282 y3 false, Ob.row 5 (y4 +
 1) (y5 ++ [V.int .u8 (IntKind.u8.wrap (x1.fdiv (2 ^ min (IntKind.u64.wrap (IntKind.i64.wrap (8 * y2))).toNat 64)))]) false]))) else O.L 0 187 10 [true, true, true, true, true, true, false, true] [] q0
 [(4, V.ptr 0 0), (17, V.ref 1), (18, V.int .i64 (IntKind.i64.wrap (y1 + 1)))] [Ob.box 282 y3 false, Ob.row 5 y4 y5 false]
theorem e187l5 (k m q0 q1 : Nat) (y1 : Int) (y2 : Int) (y3 : List V) (y4 : Nat) (y5 : List V) : runL C k 187 12 [true, true, true, true, true, true, false, true, false, true, false, false, true] [q0]
 (m + 1) [(4, V.ptr 0 0), (17, V.ref 1), (18, V.int .i64 y1), (19, V.int .i64 y2)] [Ob.box 282 y3 false, Ob.row 5 y4 y5 false] = T187l5 (orc C k) k m q0 q1 y1 y2 y3 y4 y5 := by kernel_rfl
theorem E187l5 (y1 : Int) (y2 : Int) (y3 : List V) (y4 : Nat) (y5 : List V) {r : V} (h : T187l5 (orcE C) 0 0 0 0 y1 y2 y3 y4 y5 = some r) : loopE C 187 12 [true, true, true, true, true, true, false,
 true, false, true, false, false, true] [0] [(4, V.ptr 0 0), (17, V.ref 1), (18, V.int .i64 y1), (19, V.int .i64 y2)] [Ob.box 282 y3 false, Ob.row 5 y4 y5 false] = some r := ofL (j := 0) (F := fun s =>
 T187l5 (orc C s.k) s.k s.m (s.fs.getD 0 0) 0 y1 y2 y3 y4 y5) (fs1 fun k m q0 => e187l5 k m q0 0 y1 y2 y3 y4 y5) (by
  unfold T187l5
  repeat' first | with_reducible exact cC | with_reducible refine cI fun _ => ?_ | with_reducible refine cM ?_ | with_reducible refine cF ?_ ?_ | exact cD0 (gF (i := 0) (by decide)) | exact cD1 gM (gF (i := 0) (by decide))) h

noncomputable def T247 (O : Orc) (k m q0 q1 : Nat) (y1 : Nat) (y2 : List V) : Option V := need (O.R 0 196 [V.sl y1 y2]) fun x1 => asTup (some x1) fun x2 => PI.asBool x2[0]? fun x3 => some (V.tup
 [V.bool !x3])
theorem e247 (k m q0 q1 : Nat) (y1 : Nat) (y2 : List V) : runV C (k + 1) 247 [V.sl y1 y2] = T247 (orc C k) k m q0 q1 y1 y2 := by kernel_rfl
theorem E247 (y1 : Nat) (y2 : List V) {r : V} (h : T247 (orcE C) 0 0 0 0 y1 y2 = some r) : runE C 247 [V.sl y1 y2] = some r := ofR (F := fun s => T247 (orc C s.k) s.k s.m 0 0 y1 y2) (fun k => e247 k k
 0 0 y1 y2) (by
  unfold T247
  repeat' first | with_reducible exact cC | with_reducible refine cN cR fun _ => ?_ | with_reducible refine cT fun _ => ?_ | with_reducible refine cB fun _ => ?_ | with_reducible refine cN cC fun _ => ?_ | with_reducible exact cR) h

noncomputable def T189 (O : Orc) (k m q0 q1 : Nat) (y1 : Int) : Option V := must (inB y1 256) (some (V.tup [V.int .i64 (IntKind.i64.wrap (↑(([0, 1, 2, 2, 3, 3, 3, 3, 4, 4, 4, 4, 4, 4, 4, 4, 5, 5, 5, 5,
 5, 5, 5, 5, 5, 5, 5, 5, 5, 5, 5, 5, 6, 6, 6, 6, 6, 6, 6, 6, 6, 6, 6, 6, 6, 6, 6, 6, 6, 6, 6, 6, 6, 6, 6, 6, 6, 6, 6, 6, 6, 6, 6, 6, 7, 7, 7, 7, 7, 7, 7, 7, 7, 7, 7, 7, 7, 7, 7, 7, 7, 7, 7, 7, 7, 7, 7,
 7, 7, 7, 7, 7, 7, 7, 7, 7, 7, 7, 7, 7, 7, 7, 7, 7, 7, 7, 7, 7, 7, 7, 7, 7, 7, 7, 7, 7, 7, 7, 7, 7, 7, 7, 7, 7, 7, 7, 7, 7, 8, 8, 8, 8, 8, 8, 8, 8, 8, 8, 8, 8, 8, 8, 8, 8, 8, 8, 8, 8, 8, 8, 8, 8, 8, 8,
 8, 8, 8, 8, 8, 8, 8, 8, 8, 8, 8, 8, 8, 8, 8, 8, 8, 8, 8, 8, 8, 8, 8, 8, 8, 8, 8, 8, 8, 8, 8, 8, 8, 8, 8, 8, 8, 8, 8, 8, 8, 8, 8, 8, 8, 8, 8, 8, 8, 8, 8, 8, 8, 8, 8, 8, 8, 8, 8, 8, 8, 8, 8, 8, 8, 8, 8,
 8, 8, 8, 8, 8, 8, 8, 8, 8, 8, 8, 8, 8, 8, 8, 8, 8, 8, 8, 8, 8, 8, 8, 8, 8, 8, 8, 8, 8, 8, 8, 8, 8, 8, 8] : List UInt8).getD y1.toNat (OfNat.ofNat 0)).toNat : Int))]))
theorem e189 (k m q0 q1 : Nat) (y1 : Int) : runV C (k + 1) 189 [V.int .u8 y1] = T189 (orc C k) k m q0 q1 y1 := by kernel_rfl
theorem E189 (y1 : Int) {r : V} (h : T189 (orcE C) 0 0 0 0 y1 = some r) : runE C 189 [V.int .u8 y1] = some r := ofR (F := fun s => T189 (orc C s.k) s.k s.m 0 0 y1) (fun k => e189 k k 0 0 y1) (by
  unfold T189
  repeat' first | with_reducible exact cC | with_reducible refine cM ?_) h

noncomputable def T183l3 (O : Orc) (k m q0 q1 : Nat) (y1 : Int) (y2 : Int) (y3 : Nat) (y4 : List V) : Option V := bif decide (y2 ≥ 0) then must (decide (0 ≤ y2)) (must (true && (y3 + 1).ble
 140737488355328 && ((y3 + 1) * 1).ble 140737488355328) (O.L 0 183 4 [true, true, true, true, true, true, false, true] [] m [(3, V.ref 0), (6, V.int .u64 y1), (7, V.int .i64 (IntKind.i64.wrap (y2 -
 8)))] [Ob.row 5 (y3 + 1) (y4 ++ [V.int .u8 (IntKind.u8.wrap (y1.fdiv (2 ^ min y2.toNat 64)))]) false])) else O.L 0 183 6 [true, true, true, true, true, true, true, true, false] [] k [(3, V.ref 0), (8,
 V.ptr 1 0)] [Ob.row 5 y3 y4 false, Ob.box 278 [V.int .u32 1779033703, V.int .u32 3144134277, V.int .u32 1013904242, V.int .u32 2773480762, V.int .u32 1359893119, V.int .u32 2600822924, V.int .u32
 528734635, V.int .u32 1541459225] false]
theorem e183l3 (k m q0 q1 : Nat) (y1 : Int) (y2 : Int) (y3 : Nat) (y4 : List V) : runL C k 183 4 [true, true, true, true, true, true, false, true] [] (m + 1) [(3, V.ref 0), (6, V.int .u64 y1), (7,
 V.int .i64 y2)] [Ob.row 5 y3 y4 false] = T183l3 (orc C k) k m q0 q1 y1 y2 y3 y4 := by kernel_rfl
theorem E183l3 (y1 : Int) (y2 : Int) (y3 : Nat) (y4 : List V) {r : V} (h : T183l3 (orcE C) 0 0 0 0 y1 y2 y3 y4 = some r) : loopE C 183 4 [true, true, true, true, true, true, false, true] [] [(3, V.ref
 0), (6, V.int .u64 y1), (7, V.int .i64 y2)] [Ob.row 5 y3 y4 false] = some r := ofL (j := 0) (F := fun s => T183l3 (orc C s.k) s.k s.m 0 0 y1 y2 y3 y4) (fs0 fun k m => e183l3 k m 0 0 y1 y2 y3 y4) (by
  unfold T183l3
  repeat' first | with_reducible exact cC | with_reducible refine cM ?_ | with_reducible refine cF ?_ ?_ | exact cD0 gK | exact cD0 gM) h

noncomputable def T230l1 (O : Orc) (k m q0 q1 : Nat) (y1 : Nat) (y2 : List V) (y3 : Int) (y4 : Int) : Option V := bif decide (y4 < (↑y1 : Int)) then must (inB y4 y1) (PI.asInt .u8 y2[y4.toNat * 1]? fun
 x1 => O.L 0 230 0 [true, true, false, true] [] m [(0, V.sl y1 y2), (3, V.int .i64 (IntKind.i64.wrap (IntKind.i64.wrap (y3 * 256) + IntKind.i64.wrap x1))), (4, V.int .i64 (IntKind.i64.wrap (y4 + 1)))]
 []) else some (V.tup [V.int .i64 y3])
theorem e230l1 (k m q0 q1 : Nat) (y1 : Nat) (y2 : List V) (y3 : Int) (y4 : Int) : runL C k 230 0 [true, true, false, true] [] (m + 1) [(0, V.sl y1 y2), (3, V.int .i64 y3), (4, V.int .i64 y4)] [] =
 T230l1 (orc C k) k m q0 q1 y1 y2 y3 y4 := by kernel_rfl
theorem E230l1 (y1 : Nat) (y2 : List V) (y3 : Int) (y4 : Int) {r : V} (h : T230l1 (orcE C) 0 0 0 0 y1 y2 y3 y4 = some r) : loopE C 230 0 [true, true, false, true] [] [(0, V.sl y1 y2), (3, V.int .i64
 y3), (4, V.int .i64 y4)] [] = some r := ofL (j := 0) (F := fun s => T230l1 (orc C s.k) s.k s.m 0 0 y1 y2 y3 y4) (fs0 fun k m => e230l1 k m 0 0 y1 y2 y3 y4) (by
  unfold T230l1
  repeat' first | with_reducible exact cC | with_reducible refine cI fun _ => ?_ | with_reducible refine cM ?_ | with_reducible refine cF ?_ ?_ | exact cD0 gM) h

noncomputable def T252 (O : Orc) (k m q0 q1 : Nat) (y1 : Int) (y2 : Int) : Option V := must (decide (0 ≤ y2)) (must (decide (0 ≤ IntKind.u64.wrap (32 - y2))) (some (V.tup [V.int .i64 ((PI.bits
 IntKind.i64 (fun x1 x2 => x1 ||| x2) (y1.fdiv (2 ^ min y2.toNat 64)) (IntKind.i64.wrap (y1 * 2 ^ min (IntKind.u64.wrap (32 - y2)).toNat 64))).tmod 4294967296)])))
theorem e252 (k m q0 q1 : Nat) (y1 : Int) (y2 : Int) : runV C (k + 1) 252 [V.int .i64 y1, V.int .u64 y2] = T252 (orc C k) k m q0 q1 y1 y2 := by kernel_rfl
theorem E252 (y1 : Int) (y2 : Int) {r : V} (h : T252 (orcE C) 0 0 0 0 y1 y2 = some r) : runE C 252 [V.int .i64 y1, V.int .u64 y2] = some r := ofR (F := fun s => T252 (orc C s.k) s.k s.m 0 0 y1 y2) (fun
 k => e252 k k 0 0 y1 y2) (by
  unfold T252
  repeat' first | with_reducible exact cC | with_reducible refine cM ?_) h

noncomputable def T187l6 (O : Orc) (k m q0 q1 : Nat) (y1 : Nat) (y2 : List V) (y3 : Int) (y4 : Int) (y5 : List V) (y6 : List V) (y7 : List V) (y8 : List V) : Option V := bif decide (y4 < 64) then
 PI.asInt .i64 y8[0]? fun x1 => PI.asInt .i64 y8[1]? fun x2 => PI.asInt .i64 y8[2]? fun x3 => PI.asInt .i64 y8[3]? fun x4 => PI.asInt .i64 y8[4]? fun x5 => PI.asInt .i64 y8[5]? fun x6 => PI.asInt .i64
 y8[6]? fun x7 => PI.asInt .i64 y8[7]? fun x8 => must (inB y4 64) (PI.asInt .i64 y7[0 + y4.toNat * 1]? fun x9 => must (inB y4 64) (PI.asInt .i64 y5[0 + y4.toNat * 1]? fun x10 => need (O.R 0 253 [V.agg
 [V.int .i64 x1, V.int .i64 x2, V.int .i64 x3, V.int .i64 x4, V.int .i64 x5, V.int .i64 x6, V.int .i64 x7, V.int .i64 x8], V.int .i64 x9, V.int .i64 x10]) fun x11 => asTup (some x11) fun x12 =>
 PI.asInt .i64 x12[0]? fun x13 => PI.asInt .i64 x12[1]? fun x14 => PI.asInt .i64 x12[2]? fun x15 => PI.asInt .i64 x12[3]? fun x16 => PI.asInt .i64 x12[4]? fun x17 => PI.asInt .i64 x12[5]? fun x18 =>
 PI.asInt .i64 x12[6]? fun x19 => PI.asInt .i64 x12[7]? fun x20 => must ([V.int .i64 x13, V.int .i64 x14, V.int .i64 x15, V.int .i64 x16, V.int .i64 x17, V.int .i64 x18, V.int .i64 x19, V.int .i64
 x20].length.beq 8 && true && (0 + [V.int .i64 x13, V.int .i64 x14, V.int .i64 x15, V.int .i64 x16, V.int .i64 x17, V.int .i64 x18, V.int .i64 x19, V.int .i64 x20].length).ble y8.length && flatB C 282
 [V.int .i64 x13, V.int .i64 x14, V.int .i64 x15, V.int .i64 x16, V.int .i64 x17, V.int .i64 x18, V.int .i64 x19, V.int .i64 x20]) (O.L 0 187 6 [true, true, true, true, false, true, false, true, false,
 false, true, true, true, true, false, true] [q0] m [(3, V.ptr 0 0), (4, V.ptr 1 0), (5, V.sl y1 y2), (6, V.int .i64 y3), (7, V.ptr 2 0), (14, V.ptr 3 0), (15, V.int .i64 (IntKind.i64.wrap (y4 + 1)))]
 [Ob.box 280 y5 false, Ob.box 282 y6 false, Ob.box 280 y7 false, Ob.box 282 (splice y8 0 [V.int .i64 x13, V.int .i64 x14, V.int .i64 x15, V.int .i64 x16, V.int .i64 x17, V.int .i64 x18, V.int .i64 x19,
 V.int .i64 x20]) false]))) else O.L 0 187 8 [true, true, true, true, false, true, false, true, false, false, true, true, true, true, true, true] [q0] k [(3, V.ptr 0 0), (4, V.ptr 1 0), (5, V.sl y1
 y2), (6, V.int .i64 y3), (14, V.ptr 2 0), (16, V.int .i64 0)] [Ob.box 280 y5 false, Ob.box 282 y6 false, Ob.box 282 y8 false]
theorem e187l6 (k m q0 q1 : Nat) (y1 : Nat) (y2 : List V) (y3 : Int) (y4 : Int) (y5 : List V) (y6 : List V) (y7 : List V) (y8 : List V) : runL C k 187 6 [true, true, true, true, false, true, false,
 true, false, false, true, true, true, true, false, true] [q0] (m + 1) [(3, V.ptr 0 0), (4, V.ptr 1 0), (5, V.sl y1 y2), (6, V.int .i64 y3), (7, V.ptr 2 0), (14, V.ptr 3 0), (15, V.int .i64 y4)]
 [Ob.box 280 y5 false, Ob.box 282 y6 false, Ob.box 280 y7 false, Ob.box 282 y8 false] = T187l6 (orc C k) k m q0 q1 y1 y2 y3 y4 y5 y6 y7 y8 := by kernel_rfl
theorem E187l6 (y1 : Nat) (y2 : List V) (y3 : Int) (y4 : Int) (y5 : List V) (y6 : List V) (y7 : List V) (y8 : List V) {r : V} (h : T187l6 (orcE C) 0 0 0 0 y1 y2 y3 y4 y5 y6 y7 y8 = some r) : loopE C
 187 6 [true, true, true, true, false, true, false, true, false, false, true, true, true, true, false, true] [0] [(3, V.ptr 0 0), (4, V.ptr 1 0), (5, V.sl y1 y2), (6, V.int .i64 y3), (7, V.ptr 2 0),
 (14, V.ptr 3 0), (15, V.int .i64 y4)] [Ob.box 280 y5 false, Ob.box 282 y6 false, Ob.box 280 y7 false, Ob.box 282 y8 false] = some r := ofL (j := 0) (F := fun s => T187l6 (orc C s.k) s.k s.m (s.fs.getD
 0 0) 0 y1 y2 y3 y4 y5 y6 y7 y8) (fs1 fun k m q0 => e187l6 k m q0 0 y1 y2 y3 y4 y5 y6 y7 y8) (by
  unfold T187l6
  repeat' first | with_reducible exact cC | with_reducible refine cN cR fun _ => ?_ | with_reducible refine cT fun _ => ?_ | with_reducible refine cI fun _ => ?_ | with_reducible refine cM ?_ | with_reducible refine cF ?_ ?_ | with_reducible refine cN cC fun _ => ?_ | with_reducible exact cR | exact cD1 gK (gF (i := 0) (by decide)) | exact cD1 gM (gF (i := 0) (by decide))) h

noncomputable def T196 (O : Orc) (k m q0 q1 : Nat) (y1 : Nat) (y2 : List V) : Option V := some (V.tup [V.bool ((↑y1 : Int) == 32)])
theorem e196 (k m q0 q1 : Nat) (y1 : Nat) (y2 : List V) : runV C (k + 1) 196 [V.sl y1 y2] = T196 (orc C k) k m q0 q1 y1 y2 := by kernel_rfl
theorem E196 (y1 : Nat) (y2 : List V) {r : V} (h : T196 (orcE C) 0 0 0 0 y1 y2 = some r) : runE C 196 [V.sl y1 y2] = some r := ofR (F := fun s => T196 (orc C s.k) s.k s.m 0 0 y1 y2) (fun k => e196 k k
 0 0 y1 y2) (by
  unfold T196
  exact cC) h

noncomputable def T183l4 (O : Orc) (k m q0 q1 : Nat) (y1 : Nat) (y2 : List V) (y3 : List V) : Option V := bif decide ((↑y1 : Int) > 0) then PI.asInt .u32 y3[0]? fun x1 => PI.asInt .u32 y3[1]? fun x2 =>
 PI.asInt .u32 y3[2]? fun x3 => PI.asInt .u32 y3[3]? fun x4 => PI.asInt .u32 y3[4]? fun x5 => PI.asInt .u32 y3[5]? fun x6 => PI.asInt .u32 y3[6]? fun x7 => PI.asInt .u32 y3[7]? fun x8 => must (true &&
 decide (64 ≤ (↑y1 : Int))) (need (O.R 0 248 [V.agg [V.int .u32 x1, V.int .u32 x2, V.int .u32 x3, V.int .u32 x4, V.int .u32 x5, V.int .u32 x6, V.int .u32 x7, V.int .u32 x8], V.sl 64 (List.take 64
 (List.drop 0 y2))]) fun x9 => asTup (some x9) fun x10 => PI.asInt .u32 x10[0]? fun x11 => PI.asInt .u32 x10[1]? fun x12 => PI.asInt .u32 x10[2]? fun x13 => PI.asInt .u32 x10[3]? fun x14 => PI.asInt
 .u32 x10[4]? fun x15 => PI.asInt .u32 x10[5]? fun x16 => PI.asInt .u32 x10[6]? fun x17 => PI.asInt .u32 x10[7]? fun x18 => must ([V.int .u32 x11, V.int .u32 x12, V.int .u32 x13, V.int .u32 x14, V.int
 .u32 x15, V.int .u32 x16, V.int .u32 x17, V.int .u32 x18].length.beq 8 && true && (0 + [V.int .u32 x11, V.int .u32 x12, V.int .u32 x13, V.int .u32 x14, V.int .u32 x15, V.int .u32 x16, V.int .u32 x17,
 V.int .u32 x18].length).ble y3.length && flatB C 278 [V.int .u32 x11, V.int .u32 x12, V.int .u32 x13, V.int .u32 x14, V.int .u32 x15, V.int .u32 x16, V.int .u32 x17, V.int .u32 x18]) (must (true &&
 decide (64 ≤ (↑y1 : Int))) (O.L 0 183 6 [true, true, true, true, true, true, true, true, false] [] m [(3, V.sl (y1 - 64) (List.take ((y1 - 64) * 1) (List.drop 64 y2))), (8, V.ptr 0 0)] [Ob.box 278
 (splice y3 0 [V.int .u32 x11, V.int .u32 x12, V.int .u32 x13, V.int .u32 x14, V.int .u32 x15, V.int .u32 x16, V.int .u32 x17, V.int .u32 x18]) false]))) else PI.asInt .u32 y3[0]? fun x19 => PI.asInt
 .u32 y3[1]? fun x20 => PI.asInt .u32 y3[2]? fun x21 => PI.asInt .u32 y3[3]? fun x22 => PI.asInt .u32 y3[4]? fun x23 => PI.asInt .u32 y3[5]? fun x24 => PI.asInt .u32 y3[6]? fun x25 => PI.asInt .u32
 y3[7]? fun x26 => O.L 0 183 8 [true, true, true, true, true, true, true, true, true, true, false, true] [] k [(9, V.ref 0), (59, V.agg [V.int .u32 x19, V.int .u32 x20, V.int .u32 x21, V.int .u32 x22,
 V.int .u32 x23, V.int .u32 x24, V.int .u32 x25, V.int .u32 x26]), (60, V.int .i64 0)] [Ob.row 5 0 [] false]
theorem e183l4 (k m q0 q1 : Nat) (y1 : Nat) (y2 : List V) (y3 : List V) : runL C k 183 6 [true, true, true, true, true, true, true, true, false] [] (m + 1) [(3, V.ref 0), (8, V.ptr 1 0)] [Ob.row 5 y1
 y2 false, Ob.box 278 y3 false] = T183l4 (orc C k) k m q0 q1 y1 y2 y3 := by kernel_rfl
theorem E183l4 (y1 : Nat) (y2 : List V) (y3 : List V) {r : V} (h : T183l4 (orcE C) 0 0 0 0 y1 y2 y3 = some r) : loopE C 183 6 [true, true, true, true, true, true, true, true, false] [] [(3, V.ref 0),
 (8, V.ptr 1 0)] [Ob.row 5 y1 y2 false, Ob.box 278 y3 false] = some r := ofL (j := 0) (F := fun s => T183l4 (orc C s.k) s.k s.m 0 0 y1 y2 y3) (fs0 fun k m => e183l4 k m 0 0 y1 y2 y3) (by
  unfold T183l4
  repeat' first | with_reducible exact cC | with_reducible refine cN cR fun _ => ?_ | with_reducible refine cT fun _ => ?_ | with_reducible refine cI fun _ => ?_ | with_reducible refine cM ?_ | with_reducible refine cF ?_ ?_ | with_reducible refine cN cC fun _ => ?_ | with_reducible exact cR | exact cD0 gK | exact cD0 gM) h

noncomputable def T253 (O : Orc) (k m q0 q1 : Nat) (y1 : Int) (y2 : Int) (y3 : Int) (y4 : Int) (y5 : Int) (y6 : Int) (y7 : Int) (y8 : Int) (y9 : Int) (y10 : Int) : Option V := need (O.R 0 252 [V.int
 .i64 y5, V.int .u64 6]) fun x1 => asTup (some x1) fun x2 => PI.asInt .i64 x2[0]? fun x3 => need (O.R 0 252 [V.int .i64 y5, V.int .u64 11]) fun x4 => asTup (some x4) fun x5 => PI.asInt .i64 x5[0]? fun
 x6 => need (O.R 0 252 [V.int .i64 y5, V.int .u64 25]) fun x7 => asTup (some x7) fun x8 => PI.asInt .i64 x8[0]? fun x9 => need (O.R 0 292 [V.int .i64 y5]) fun x10 => asTup (some x10) fun x11 =>
 PI.asInt .i64 x11[0]? fun x12 => need (O.R 0 252 [V.int .i64 y1, V.int .u64 2]) fun x13 => asTup (some x13) fun x14 => PI.asInt .i64 x14[0]? fun x15 => need (O.R 0 252 [V.int .i64 y1, V.int .u64 13])
 fun x16 => asTup (some x16) fun x17 => PI.asInt .i64 x17[0]? fun x18 => need (O.R 0 252 [V.int .i64 y1, V.int .u64 22]) fun x19 => asTup (some x19) fun x20 => PI.asInt .i64 x20[0]? fun x21 => some
 (V.tup [V.int .i64 ((IntKind.i64.wrap ((IntKind.i64.wrap (IntKind.i64.wrap (IntKind.i64.wrap (IntKind.i64.wrap (y8 + PI.bits IntKind.i64 (fun x1 x2 => x1 ^^^ x2) (PI.bits IntKind.i64 (fun x1 x2 => x1
 ^^^ x2) x3 x6) x9) + PI.bits IntKind.i64 (fun x1 x2 => x1 ^^^ x2) (PI.bits IntKind.i64 (fun x1 x2 => x1 &&& x2) y5 y6) (PI.bits IntKind.i64 (fun x1 x2 => x1 &&& x2) x12 y7)) + y10) + y9)).tmod
 4294967296 + (IntKind.i64.wrap (PI.bits IntKind.i64 (fun x1 x2 => x1 ^^^ x2) (PI.bits IntKind.i64 (fun x1 x2 => x1 ^^^ x2) x15 x18) x21 + PI.bits IntKind.i64 (fun x1 x2 => x1 ^^^ x2) (PI.bits
 IntKind.i64 (fun x1 x2 => x1 ^^^ x2) (PI.bits IntKind.i64 (fun x1 x2 => x1 &&& x2) y1 y2) (PI.bits IntKind.i64 (fun x1 x2 => x1 &&& x2) y1 y3)) (PI.bits IntKind.i64 (fun x1 x2 => x1 &&& x2) y2
 y3))).tmod 4294967296)).tmod 4294967296), V.int .i64 y1, V.int .i64 y2, V.int .i64 y3, V.int .i64 ((IntKind.i64.wrap (y4 + (IntKind.i64.wrap (IntKind.i64.wrap (IntKind.i64.wrap (IntKind.i64.wrap (y8 +
 PI.bits IntKind.i64 (fun x1 x2 => x1 ^^^ x2) (PI.bits IntKind.i64 (fun x1 x2 => x1 ^^^ x2) x3 x6) x9) + PI.bits IntKind.i64 (fun x1 x2 => x1 ^^^ x2) (PI.bits IntKind.i64 (fun x1 x2 => x1 &&& x2) y5
 y6) (PI.bits IntKind.i64 (fun x1 x2 => x1 &&& x2) x12 y7)) + y10) + y9)).tmod 4294967296)).tmod 4294967296), V.int .i64 y5, V.int .i64 y6, V.int .i64 y7])
theorem e253 (k m q0 q1 : Nat) (y1 : Int) (y2 : Int) (y3 : Int) (y4 : Int) (y5 : Int) (y6 : Int) (y7 : Int) (y8 : Int) (y9 : Int) (y10 : Int) : runV C (k + 1) 253 [V.agg [V.int .i64 y1, V.int .i64 y2,
 V.int .i64 y3, V.int .i64 y4, V.int .i64 y5, V.int .i64 y6, V.int .i64 y7, V.int .i64 y8], V.int .i64 y9, V.int .i64 y10] = T253 (orc C k) k m q0 q1 y1 y2 y3 y4 y5 y6 y7 y8 y9 y10 := by kernel_rfl
theorem E253 (y1 : Int) (y2 : Int) (y3 : Int) (y4 : Int) (y5 : Int) (y6 : Int) (y7 : Int) (y8 : Int) (y9 : Int) (y10 : Int) {r : V} (h : T253 (orcE C) 0 0 0 0 y1 y2 y3 y4 y5 y6 y7 y8 y9 y10 = some r) :
 runE C 253 [V.agg [V.int .i64 y1, V.int .i64 y2, V.int .i64 y3, V.int .i64 y4, V.int .i64 y5, V.int .i64 y6, V.int .i64 y7, V.int .i64 y8], V.int .i64 y9, V.int .i64 y10] = some r := ofR (F := fun s
 => T253 (orc C s.k) s.k s.m 0 0 y1 y2 y3 y4 y5 y6 y7 y8 y9 y10) (fun k => e253 k k 0 0 y1 y2 y3 y4 y5 y6 y7 y8 y9 y10) (by
  unfold T253
  repeat' first | with_reducible exact cC | with_reducible refine cN cR fun _ => ?_ | with_reducible refine cT fun _ => ?_ | with_reducible refine cI fun _ => ?_ | with_reducible refine cN cC fun _ => ?_ | with_reducible exact cR) h

noncomputable def T187l7 (O : Orc) (k m q0 q1 : Nat) (y1 : Nat) (y2 : List V) (y3 : Int) (y4 : Int) (y5 : List V) (y6 : List V) (y7 : List V) : Option V := bif decide (y4 < 8) then must (inB y4 8)
 (PI.asInt .i64 y6[0 + y4.toNat * 1]? fun x1 => must (inB y4 8) (PI.asInt .i64 y7[0 + y4.toNat * 1]? fun x2 => must (inB y4 8) (must ((V.int .i64 ((IntKind.i64.wrap (x1 + x2)).tmod 4294967296)).solid
 && true && (0 + y4.toNat * 1 + 1).ble y6.length && flatB C 282 [V.int .i64 ((IntKind.i64.wrap (x1 + x2)).tmod 4294967296)]) (O.L 0 187 8 [true, true, true, true, false, true, false, true, false,
 false, true, true, true, true, true, true] [q0] m [(3, V.ptr 0 0), (4, V.ptr 1 0), (5, V.sl y1 y2), (6, V.int .i64 y3), (14, V.ptr 2 0), (16, V.int .i64 (IntKind.i64.wrap (y4 + 1)))] [Ob.box 280 y5
 false, Ob.box 282 (splice y6 (0 + y4.toNat * 1) [V.int .i64 ((IntKind.i64.wrap (x1 + x2)).tmod 4294967296)]) false, Ob.box 282 y7 false])))) else O.L 0 187 0 [true, true, true, true, false, true] []
 q0 [(3, V.ptr 0 0), (4, V.ptr 1 0), (5, V.sl y1 y2), (6, V.int .i64 (IntKind.i64.wrap (y3 + 64)))] [Ob.box 280 y5 false, Ob.box 282 y6 false]
theorem e187l7 (k m q0 q1 : Nat) (y1 : Nat) (y2 : List V) (y3 : Int) (y4 : Int) (y5 : List V) (y6 : List V) (y7 : List V) : runL C k 187 8 [true, true, true, true, false, true, false, true, false,
 false, true, true, true, true, true, true] [q0] (m + 1) [(3, V.ptr 0 0), (4, V.ptr 1 0), (5, V.sl y1 y2), (6, V.int .i64 y3), (14, V.ptr 2 0), (16, V.int .i64 y4)] [Ob.box 280 y5 false, Ob.box 282 y6
 false, Ob.box 282 y7 false] = T187l7 (orc C k) k m q0 q1 y1 y2 y3 y4 y5 y6 y7 := by kernel_rfl
theorem E187l7 (y1 : Nat) (y2 : List V) (y3 : Int) (y4 : Int) (y5 : List V) (y6 : List V) (y7 : List V) {r : V} (h : T187l7 (orcE C) 0 0 0 0 y1 y2 y3 y4 y5 y6 y7 = some r) : loopE C 187 8 [true, true,
 true, true, false, true, false, true, false, false, true, true, true, true, true, true] [0] [(3, V.ptr 0 0), (4, V.ptr 1 0), (5, V.sl y1 y2), (6, V.int .i64 y3), (14, V.ptr 2 0), (16, V.int .i64 y4)]
 [Ob.box 280 y5 false, Ob.box 282 y6 false, Ob.box 282 y7 false] = some r := ofL (j := 0) (F := fun s => T187l7 (orc C s.k) s.k s.m (s.fs.getD 0 0) 0 y1 y2 y3 y4 y5 y6 y7) (fs1 fun k m q0 => e187l7 k m
 q0 0 y1 y2 y3 y4 y5 y6 y7) (by
  unfold T187l7
  repeat' first | with_reducible exact cC | with_reducible refine cI fun _ => ?_ | with_reducible refine cM ?_ | with_reducible refine cF ?_ ?_ | exact cD0 (gF (i := 0) (by decide)) | exact cD1 gM (gF (i := 0) (by decide))) h

noncomputable def T248 (O : Orc) (k m q0 q1 : Nat) (y1 : Int) (y2 : Int) (y3 : Int) (y4 : Int) (y5 : Int) (y6 : Int) (y7 : Int) (y8 : Int) (y9 : Nat) (y10 : List V) : Option V := O.L 0 248 0 [true,
 true, false, true] [] k [(1, V.sl y9 y10), (2, V.ptr 0 0), (4, V.ptr 1 0), (5, V.ptr 2 0), (16, V.int .i64 0)] [Ob.box 278 [V.int .u32 y1, V.int .u32 y2, V.int .u32 y3, V.int .u32 y4, V.int .u32 y5,
 V.int .u32 y6, V.int .u32 y7, V.int .u32 y8] false, Ob.box 278 [V.int .u32 0, V.int .u32 0, V.int .u32 0, V.int .u32 0, V.int .u32 0, V.int .u32 0, V.int .u32 0, V.int .u32 0] false, Ob.box 306 [V.int
 .u32 0, V.int .u32 0, V.int .u32 0, V.int .u32 0, V.int .u32 0, V.int .u32 0, V.int .u32 0, V.int .u32 0, V.int .u32 0, V.int .u32 0, V.int .u32 0, V.int .u32 0, V.int .u32 0, V.int .u32 0, V.int .u32
 0, V.int .u32 0, V.int .u32 0, V.int .u32 0, V.int .u32 0, V.int .u32 0, V.int .u32 0, V.int .u32 0, V.int .u32 0, V.int .u32 0, V.int .u32 0, V.int .u32 0, V.int .u32 0, V.int .u32 0, V.int .u32 0,
 V.int .u32 0, V.int .u32 0, V.int .u32 0, V.int .u32 0, V.int .u32 0, V.int .u32 0, V.int .u32 0, V.int .u32 0, V.int .u32 0, V.int .u32 0, V.int .u32 0, V.int .u32 0, V.int .u32 0, V.int .u32 0,
 V.int .u32 0, V.int .u32 0, V.int .u32 0, V.int .u32 0, V.int .u32 0, V.int .u32 0, V.int .u32 0, V.int .u32 0, V.int .u32 0, V.int .u32 0, V.int .u32 0, V.int .u32 0, V.int .u32 0, V.int .u32 0,
 V.int .u32 0, V.int .u32 0, V.int .u32 0, V.int .u32 0, V.int .u32 0, V.int .u32 0, V.int .u32 0] false]
theorem e248 (k m q0 q1 : Nat) (y1 : Int) (y2 : Int) (y3 : Int) (y4 : Int) (y5 : Int) (y6 : Int) (y7 : Int) (y8 : Int) (y9 : Nat) (y10 : List V) : runV C (k + 1) 248 [V.agg [V.int .u32 y1, V.int .u32
 y2, V.int .u32 y3, V.int .u32 y4, V.int .u32 y5, V.int .u32 y6, V.int .u32 y7, V.int .u32 y8], V.sl y9 y10] = T248 (orc C k) k m q0 q1 y1 y2 y3 y4 y5 y6 y7 y8 y9 y10 := by kernel_rfl
theorem E248 (y1 : Int) (y2 : Int) (y3 : Int) (y4 : Int) (y5 : Int) (y6 : Int) (y7 : Int) (y8 : Int) (y9 : Nat) (y10 : List V) {r : V} (h : T248 (orcE C) 0 0 0 0 y1 y2 y3 y4 y5 y6 y7 y8 y9 y10 = some
 r) : runE C 248 [V.agg [V.int .u32 y1, V.int .u32 y2, V.int .u32 y3, V.int .u32 y4, V.int .u32 y5, V.int .u32 y6, V.int .u32 y7, V.int .u32 y8], V.sl y9 y10] = some r := ofR (F := fun s => T248 (orc C
 s.k) s.k s.m 0 0 y1 y2 y3 y4 y5 y6 y7 y8 y9 y10) (fun k => e248 k k 0 0 y1 y2 y3 y4 y5 y6 y7 y8 y9 y10) (by
  unfold T248
  repeat' first | with_reducible exact cC | exact cD0 gK) h

noncomputable def T183l5 (O : Orc) (k m q0 q1 : Nat) (y1 : Nat) (y2 : List V) (y3 : List V) : Option V := bif decide ((↑y1 : Int) > 0) then PI.asInt .u32 y3[0]? fun x1 => PI.asInt .u32 y3[1]? fun x2 =>
 PI.asInt .u32 y3[2]? fun x3 => PI.asInt .u32 y3[3]? fun x4 => PI.asInt .u32 y3[4]? fun x5 => PI.asInt .u32 y3[5]? fun x6 => PI.asInt .u32 y3[6]? fun x7 => PI.asInt .u32 y3[7]? fun x8 => must (true &&
 decide (64 ≤ (↑y1 : Int))) (need (O.R 0 248 [V.agg [V.int .u32 x1, V.int .u32 x2, V.int .u32 x3, V.int .u32 x4, V.int .u32 x5, V.int .u32 x6, V.int .u32 x7, V.int .u32 x8], V.sl 64 (List.take 64
 (List.drop 0 y2))]) fun x9 => asTup (some x9) fun x10 => PI.asInt .u32 x10[0]? fun x11 => PI.asInt .u32 x10[1]? fun x12 => PI.asInt .u32 x10[2]? fun x13 => PI.asInt .u32 x10[3]? fun x14 => PI.asInt
 .u32 x10[4]? fun x15 => PI.asInt .u32 x10[5]? fun x16 => PI.asInt .u32 x10[6]? fun x17 => PI.asInt .u32 x10[7]? fun x18 => must ([V.int .u32 x11, V.int .u32 x12, V.int .u32 x13, V.int .u32 x14, V.int
 .u32 x15, V.int .u32 x16, V.int .u32 x17, V.int .u32 x18].length.beq 8 && true && (0 + [V.int .u32 x11, V.int .u32 x12, V.int .u32 x13, V.int .u32 x14, V.int .u32 x15, V.int .u32 x16, V.int .u32 x17,
 V.int .u32 x18].length).ble y3.length && flatB C 278 [V.int .u32 x11, V.int .u32 x12, V.int .u32 x13, V.int .u32 x14, V.int .u32 x15, V.int .u32 x16, V.int .u32 x17, V.int .u32 x18]) (must (true &&
 decide (64 ≤ (↑y1 : Int))) (O.L 0 183 6 [true, true, true, true, true, true, true, true, false] [] m [(3, V.sl (y1 - 64) (List.take ((y1 - 64) * 1) (List.drop 64 y2))), (8, V.ptr 0 0)] [Ob.box 278
 (splice y3 0 [V.int .u32 x11, V.int .u32 x12, V.int .u32 x13, V.int .u32 x14, V.int .u32 x15, V.int .u32 x16, V.int .u32 x17, V.int .u32 x18]) false]))) else PI.asInt .u32 y3[0]? fun x19 => PI.asInt
 .u32 y3[1]? fun x20 => PI.asInt .u32 y3[2]? fun x21 => PI.asInt .u32 y3[3]? fun x22 => PI.asInt .u32 y3[4]? fun x23 => PI.asInt .u32 y3[5]? fun x24 => PI.asInt .u32 y3[6]? fun x25 => PI.asInt .u32
 y3[7]? fun x26 => O.L 0 183 8 [true, true, true, true, true, true, true, true, true, true, false, true] [] k [(9, V.ref 0), (59, V.agg [V.int .u32 x19, V.int .u32 x20, V.int .u32 x21, V.int .u32 x22,
 V.int .u32 x23, V.int .u32 x24, V.int .u32 x25, V.int .u32 x26]), (60, V.int .i64 0)] [Ob.row 5 0 [] false]
theorem e183l5 (k m q0 q1 : Nat) (y1 : Nat) (y2 : List V) (y3 : List V) : runL C k 183 6 [true, true, true, true, true, true, true, true, false] [] (m + 1) [(3, V.sl y1 y2), (8, V.ptr 0 0)] [Ob.box 278
 y3 false] = T183l5 (orc C k) k m q0 q1 y1 y2 y3 := by kernel_rfl
theorem E183l5 (y1 : Nat) (y2 : List V) (y3 : List V) {r : V} (h : T183l5 (orcE C) 0 0 0 0 y1 y2 y3 = some r) : loopE C 183 6 [true, true, true, true, true, true, true, true, false] [] [(3, V.sl y1
 y2), (8, V.ptr 0 0)] [Ob.box 278 y3 false] = some r := ofL (j := 0) (F := fun s => T183l5 (orc C s.k) s.k s.m 0 0 y1 y2 y3) (fs0 fun k m => e183l5 k m 0 0 y1 y2 y3) (by
  unfold T183l5
  repeat' first | with_reducible exact cC | with_reducible refine cN cR fun _ => ?_ | with_reducible refine cT fun _ => ?_ | with_reducible refine cI fun _ => ?_ | with_reducible refine cM ?_ | with_reducible refine cF ?_ ?_ | with_reducible refine cN cC fun _ => ?_ | with_reducible exact cR | exact cD0 gK | exact cD0 gM) h

noncomputable def T183l6 (O : Orc) (k m q0 q1 : Nat) (y1 : Int) (y2 : Int) (y3 : Int) (y4 : Int) (y5 : Int) (y6 : Int) (y7 : Int) (y8 : Int) (y9 : Int) (y10 : Nat) (y11 : List V) : Option V := bif
 decide (y9 < 8) then must (inB y9 8) (PI.asInt .u32 [V.int .u32 y1, V.int .u32 y2, V.int .u32 y3, V.int .u32 y4, V.int .u32 y5, V.int .u32 y6, V.int .u32 y7, V.int .u32 y8][y9.toNat * 1]? fun x1 =>
 must (true && (y10 + 4).ble 140737488355328 && ((y10 + 4) * 1).ble 140737488355328) (O.L 0 183 8 [true, true, true, true, true, true, true, true, true, true, false, true] [] m [(9, V.ref 0), (59,
 V.agg [V.int .u32 y1, V.int .u32 y2, V.int .u32 y3, V.int .u32 y4, V.int .u32 y5, V.int .u32 y6, V.int .u32 y7, V.int .u32 y8]), (60, V.int .i64 (IntKind.i64.wrap (y9 + 1)))] [Ob.row 5 (y10 + 4) (y11
 ++ [V.int .u8 (IntKind.u8.wrap (x1.fdiv 16777216)), V.int .u8 (IntKind.u8.wrap (x1.fdiv 65536)), V.int .u8 (IntKind.u8.wrap (x1.fdiv 256)), V.int .u8 (IntKind.u8.wrap x1)]) false])) else some (V.tup
 [V.sl y10 y11])
theorem e183l6 (k m q0 q1 : Nat) (y1 : Int) (y2 : Int) (y3 : Int) (y4 : Int) (y5 : Int) (y6 : Int) (y7 : Int) (y8 : Int) (y9 : Int) (y10 : Nat) (y11 : List V) : runL C k 183 8 [true, true, true, true,
 true, true, true, true, true, true, false, true] [] (m + 1) [(9, V.ref 0), (59, V.agg [V.int .u32 y1, V.int .u32 y2, V.int .u32 y3, V.int .u32 y4, V.int .u32 y5, V.int .u32 y6, V.int .u32 y7, V.int
 .u32 y8]), (60, V.int .i64 y9)] [Ob.row 5 y10 y11 false] = T183l6 (orc C k) k m q0 q1 y1 y2 y3 y4 y5 y6 y7 y8 y9 y10 y11 := by kernel_rfl
theorem E183l6 (y1 : Int) (y2 : Int) (y3 : Int) (y4 : Int) (y5 : Int) (y6 : Int) (y7 : Int) (y8 : Int) (y9 : Int) (y10 : Nat) (y11 : List V) {r : V} (h : T183l6 (orcE C) 0 0 0 0 y1 y2 y3 y4 y5 y6 y7 y8
 y9 y10 y11 = some r) : loopE C 183 8 [true, true, true, true, true, true, true, true, true, true, false, true] [] [(9, V.ref 0), (59, V.agg [V.int .u32 y1, V.int .u32 y2, V.int .u32 y3, V.int .u32 y4,
 V.int .u32 y5, V.int .u32 y6, V.int .u32 y7, V.int .u32 y8]), (60, V.int .i64 y9)] [Ob.row 5 y10 y11 false] = some r := ofL (j := 0) (F := fun s => T183l6 (orc C s.k) s.k s.m 0 0 y1 y2 y3 y4 y5 y6 y7
 y8 y9 y10 y11) (fs0 fun k m => e183l6 k m 0 0 y1 y2 y3 y4 y5 y6 y7 y8 y9 y10 y11) (by
  unfold T183l6
  repeat' first | with_reducible exact cC | with_reducible refine cI fun _ => ?_ | with_reducible refine cM ?_ | with_reducible refine cF ?_ ?_ | exact cD0 gM) h

noncomputable def T292 (O : Orc) (k m q0 q1 : Nat) (y1 : Int) : Option V := some (V.tup [V.int .i64 (IntKind.i64.wrap (4294967295 - y1))])
theorem e292 (k m q0 q1 : Nat) (y1 : Int) : runV C (k + 1) 292 [V.int .i64 y1] = T292 (orc C k) k m q0 q1 y1 := by kernel_rfl
theorem E292 (y1 : Int) {r : V} (h : T292 (orcE C) 0 0 0 0 y1 = some r) : runE C 292 [V.int .i64 y1] = some r := ofR (F := fun s => T292 (orc C s.k) s.k s.m 0 0 y1) (fun k => e292 k k 0 0 y1) (by
  unfold T292
  exact cC) h

noncomputable def T248l1 (O : Orc) (k m q0 q1 : Nat) (y1 : Nat) (y2 : List V) (y3 : Int) (y4 : List V) (y5 : List V) (y6 : List V) : Option V := bif decide (y3 < 64) then bif decide (y3 < 16) then must
 (inB (IntKind.i64.wrap (4 * y3)) y1) (PI.asInt .u8 y2[(IntKind.i64.wrap (4 * y3)).toNat * 1]? fun x1 => must (inB (IntKind.i64.wrap (IntKind.i64.wrap (4 * y3) + 1)) y1) (PI.asInt .u8
 y2[(IntKind.i64.wrap (IntKind.i64.wrap (4 * y3) + 1)).toNat * 1]? fun x2 => must (inB (IntKind.i64.wrap (IntKind.i64.wrap (4 * y3) + 2)) y1) (PI.asInt .u8 y2[(IntKind.i64.wrap (IntKind.i64.wrap (4 *
 y3) + 2)).toNat * 1]? fun x3 => must (inB (IntKind.i64.wrap (IntKind.i64.wrap (4 * y3) + 3)) y1) (PI.asInt .u8 y2[(IntKind.i64.wrap (IntKind.i64.wrap (4 * y3) + 3)).toNat * 1]? fun x4 => must (inB y3
 64) (must ((V.int .u32 (PI.bits IntKind.u32 (fun x1 x2 => x1 ||| x2) (PI.bits IntKind.u32 (fun x1 x2 => x1 ||| x2) (PI.bits IntKind.u32 (fun x1 x2 => x1 ||| x2) (IntKind.u32.wrap (IntKind.u32.wrap x1
 * 16777216)) (IntKind.u32.wrap (IntKind.u32.wrap x2 * 65536))) (IntKind.u32.wrap (IntKind.u32.wrap x3 * 256))) (IntKind.u32.wrap x4))).solid && true && (0 + y3.toNat * 1 + 1).ble y6.length && flatB C
 306 [V.int .u32 (PI.bits IntKind.u32 (fun x1 x2 => x1 ||| x2) (PI.bits IntKind.u32 (fun x1 x2 => x1 ||| x2) (PI.bits IntKind.u32 (fun x1 x2 => x1 ||| x2) (IntKind.u32.wrap (IntKind.u32.wrap x1 *
 16777216)) (IntKind.u32.wrap (IntKind.u32.wrap x2 * 65536))) (IntKind.u32.wrap (IntKind.u32.wrap x3 * 256))) (IntKind.u32.wrap x4))]) (O.L 0 248 0 [true, true, false, true] [] m [(1, V.sl y1 y2), (2,
 V.ptr 0 0), (4, V.ptr 1 0), (5, V.ptr 2 0), (16, V.int .i64 (IntKind.i64.wrap (y3 + 1)))] [Ob.box 278 y4 false, Ob.box 278 y5 false, Ob.box 306 (splice y6 (0 + y3.toNat * 1) [V.int .u32 (PI.bits
 IntKind.u32 (fun x1 x2 => x1 ||| x2) (PI.bits IntKind.u32 (fun x1 x2 => x1 ||| x2) (PI.bits IntKind.u32 (fun x1 x2 => x1 ||| x2) (IntKind.u32.wrap (IntKind.u32.wrap x1 * 16777216)) (IntKind.u32.wrap
 (IntKind.u32.wrap x2 * 65536))) (IntKind.u32.wrap (IntKind.u32.wrap x3 * 256))) (IntKind.u32.wrap x4))]) false])))))) else must (inB (IntKind.i64.wrap (y3 - 15)) 64) (PI.asInt .u32 y6[0 +
 (IntKind.i64.wrap (y3 - 15)).toNat * 1]? fun x5 => must (inB (IntKind.i64.wrap (y3 - 2)) 64) (PI.asInt .u32 y6[0 + (IntKind.i64.wrap (y3 - 2)).toNat * 1]? fun x6 => need (O.R 0 289 [V.int .u32 x5,
 V.int .i64 (-7)]) fun x7 => asTup (some x7) fun x8 => PI.asInt .u32 x8[0]? fun x9 => need (O.R 0 289 [V.int .u32 x5, V.int .i64 (-18)]) fun x10 => asTup (some x10) fun x11 => PI.asInt .u32 x11[0]? fun
 x12 => need (O.R 0 289 [V.int .u32 x6, V.int .i64 (-17)]) fun x13 => asTup (some x13) fun x14 => PI.asInt .u32 x14[0]? fun x15 => need (O.R 0 289 [V.int .u32 x6, V.int .i64 (-19)]) fun x16 => asTup
 (some x16) fun x17 => PI.asInt .u32 x17[0]? fun x18 => must (inB (IntKind.i64.wrap (y3 - 7)) 64) (PI.asInt .u32 y6[0 + (IntKind.i64.wrap (y3 - 7)).toNat * 1]? fun x19 => must (inB (IntKind.i64.wrap
 (y3 - 16)) 64) (PI.asInt .u32 y6[0 + (IntKind.i64.wrap (y3 - 16)).toNat * 1]? fun x20 => must (inB y3 64) (must ((V.int .u32 (IntKind.u32.wrap (IntKind.u32.wrap (IntKind.u32.wrap (PI.bits IntKind.u32
 (fun x1 x2 => x1 ^^^ x2) (PI.bits IntKind.u32 (fun x1 x2 => x1 ^^^ x2) x15 x18) (x6.fdiv 1024) + x19) + PI.bits IntKind.u32 (fun x1 x2 => x1 ^^^ x2) (PI.bits IntKind.u32 (fun x1 x2 => x1 ^^^ x2) x9
 x12) (x5.fdiv 8)) + x20))).solid && true && (0 + y3.toNat * 1 + 1).ble y6.length && flatB C 306 [V.int .u32 (IntKind.u32.wrap (IntKind.u32.wrap (IntKind.u32.wrap (PI.bits IntKind.u32 (fun x1 x2 => x1
 ^^^ x2) (PI.bits IntKind.u32 (fun x1 x2 => x1 ^^^ x2) x15 x18) (x6.fdiv 1024) + x19) + PI.bits IntKind.u32 (fun x1 x2 => x1 ^^^ x2) (PI.bits IntKind.u32 (fun x1 x2 => x1 ^^^ x2) x9 x12) (x5.fdiv 8)) +
 x20))]) (O.L 0 248 0 [true, true, false, true] [] m [(1, V.sl y1 y2), (2, V.ptr 0 0), (4, V.ptr 1 0), (5, V.ptr 2 0), (16, V.int .i64 (IntKind.i64.wrap (y3 + 1)))] [Ob.box 278 y4 false, Ob.box 278 y5
 false, Ob.box 306 (splice y6 (0 + y3.toNat * 1) [V.int .u32 (IntKind.u32.wrap (IntKind.u32.wrap (IntKind.u32.wrap (PI.bits IntKind.u32 (fun x1 x2 => x1 ^^^ x2) (PI.bits IntKind.u32 (fun x1 x2 => x1
 ^^^ x2) x15 x18) (x6.fdiv 1024) + x19) + PI.bits IntKind.u32 (fun x1 x2 => x1 ^^^ x2) (PI.bits IntKind.u32 (fun x1 x2 => x1 ^^^ x2) x9 x12) (x5.fdiv 8)) + x20))]) false])))))) else PI.asInt .u32
 y4[0]? fun x21 => PI.asInt .u32 y4[1]? fun x22 => PI.asInt .u32 y4[2]? fun x23 => PI.asInt .u32 y4[3]? fun x24 => PI.asInt .u32 y4[4]? fun x25 => PI.asInt .u32 y4[5]? fun x26 => PI.asInt .u32 y4[6]?
 fun x27 => PI.asInt .u32 y4[7]? fun x28 => need (O.R 0 290 []) fun x29 => PI.asAgg (some x29) fun x30 => O.L 0 248 2 [true, true, true, true, false, true] [] k [(2, V.ptr 0 0), (4, V.ptr 1 0), (5,
 V.ptr 2 0), (11, V.ptr 3 0), (97, V.agg (renV.renL [] x30)), (98, V.int .i64 0)] [Ob.box 278 y4 false, Ob.box 278 y5 false, Ob.box 306 y6 false, Ob.box 278 [V.int .u32 x21, V.int .u32 x22, V.int .u32
 x23, V.int .u32 x24, V.int .u32 x25, V.int .u32 x26, V.int .u32 x27, V.int .u32 x28] false]
theorem e248l1 (k m q0 q1 : Nat) (y1 : Nat) (y2 : List V) (y3 : Int) (y4 : List V) (y5 : List V) (y6 : List V) : runL C k 248 0 [true, true, false, true] [] (m + 1) [(1, V.sl y1 y2), (2, V.ptr 0 0),
 (4, V.ptr 1 0), (5, V.ptr 2 0), (16, V.int .i64 y3)] [Ob.box 278 y4 false, Ob.box 278 y5 false, Ob.box 306 y6 false] = T248l1 (orc C k) k m q0 q1 y1 y2 y3 y4 y5 y6 := by kernel_rfl
theorem E248l1 (y1 : Nat) (y2 : List V) (y3 : Int) (y4 : List V) (y5 : List V) (y6 : List V) {r : V} (h : T248l1 (orcE C) 0 0 0 0 y1 y2 y3 y4 y5 y6 = some r) : loopE C 248 0 [true, true, false, true]
 [] [(1, V.sl y1 y2), (2, V.ptr 0 0), (4, V.ptr 1 0), (5, V.ptr 2 0), (16, V.int .i64 y3)] [Ob.box 278 y4 false, Ob.box 278 y5 false, Ob.box 306 y6 false] = some r := ofL (j := 0) (F := fun s => T248l1
 (orc C s.k) s.k s.m 0 0 y1 y2 y3 y4 y5 y6) (fs0 fun k m => e248l1 k m 0 0 y1 y2 y3 y4 y5 y6) (by
  unfold T248l1
  repeat' first | with_reducible exact cC | with_reducible refine cN cR fun _ => ?_ | with_reducible refine cT fun _ => ?_ | with_reducible refine cI fun _ => ?_ | with_reducible refine cM ?_ | with_reducible refine cF ?_ ?_ | with_reducible refine cA fun _ => ?_ | with_reducible refine cN cC fun _ => ?_ | with_reducible exact cR | exact cD0 gK | exact cD0 gM) h

noncomputable def T289 (O : Orc) (k m q0 q1 : Nat) (y1 : Int) (y2 : Int) : Option V := must (decide (0 ≤ IntKind.u64.wrap (32 - PI.bits IntKind.u64 (fun x1 x2 => x1 &&& x2) (IntKind.u64.wrap y2) 31)))
 (some (V.tup [V.int .u32 (PI.bits IntKind.u32 (fun x1 x2 => x1 ||| x2) (IntKind.u32.wrap (y1 * 2 ^ min (PI.bits IntKind.u64 (fun x1 x2 => x1 &&& x2) (IntKind.u64.wrap y2) 31).toNat 32)) (y1.fdiv (2 ^
 min (IntKind.u64.wrap (32 - PI.bits IntKind.u64 (fun x1 x2 => x1 &&& x2) (IntKind.u64.wrap y2) 31)).toNat 32)))]))
theorem e289 (k m q0 q1 : Nat) (y1 : Int) (y2 : Int) : runV C (k + 1) 289 [V.int .u32 y1, V.int .i64 y2] = T289 (orc C k) k m q0 q1 y1 y2 := by kernel_rfl
theorem E289 (y1 : Int) (y2 : Int) {r : V} (h : T289 (orcE C) 0 0 0 0 y1 y2 = some r) : runE C 289 [V.int .u32 y1, V.int .i64 y2] = some r := ofR (F := fun s => T289 (orc C s.k) s.k s.m 0 0 y1 y2) (fun
 k => e289 k k 0 0 y1 y2) (by
  unfold T289
  repeat' first | with_reducible exact cC | with_reducible refine cM ?_) h

noncomputable def T290 (O : Orc) (k m q0 q1 : Nat)  : Option V := some (V.agg [V.int .u32 1116352408, V.int .u32 1899447441, V.int .u32 3049323471, V.int .u32 3921009573, V.int .u32 961987163, V.int
 .u32 1508970993, V.int .u32 2453635748, V.int .u32 2870763221, V.int .u32 3624381080, V.int .u32 310598401, V.int .u32 607225278, V.int .u32 1426881987, V.int .u32 1925078388, V.int .u32 2162078206,
 V.int .u32 2614888103, V.int .u32 3248222580, V.int .u32 3835390401, V.int .u32 4022224774, V.int .u32 264347078, V.int .u32 604807628, V.int .u32 770255983, V.int .u32 1249150122, V.int .u32
 1555081692, V.int .u32 1996064986, V.int .u32 2554220882, V.int .u32 2821834349, V.int .u32 2952996808, V.int .u32 3210313671, V.int .u32 3336571891, V.int .u32 3584528711, V.int .u32 113926993, V.int
 .u32 338241895, V.int .u32 666307205, V.int .u32 773529912, V.int .u32 1294757372, V.int .u32 1396182291, V.int .u32 1695183700, V.int .u32 1986661051, V.int .u32 2177026350, V.int .u32 2456956037,
 V.int .u32 2730485921, V.int .u32 2820302411, V.int .u32 3259730800, V.int .u32 3345764771, V.int .u32 3516065817, V.int .u32 3600352804, V.int .u32 4094571909, V.int .u32 275423344, V.int .u32
 430227734, V.int .u32 506948616, V.int .u32 659060556, V.int .u32 883997877, V.int .u32 958139571, V.int .u32 1322822218, V.int .u32 1537002063, V.int .u32 1747873779, V.int .u32 1955562222, V.int
 .u32 2024104815, V.int .u32 2227730452, V.int .u32 2361852424, V.int .u32 2428436474, V.int .u32 2756734187, V.int .u32 3204031479, V.int .u32 3329325298])
theorem e290 (k m q0 q1 : Nat)  : runV C (k + 1) 290 [] = T290 (orc C k) k m q0 q1  := by kernel_rfl
theorem E290  {r : V} (h : T290 (orcE C) 0 0 0 0  = some r) : runE C 290 [] = some r := ofR (F := fun s => T290 (orc C s.k) s.k s.m 0 0 ) (fun k => e290 k k 0 0 ) (by
  unfold T290
  exact cC) h

noncomputable def T248l2 (O : Orc) (k m q0 q1 : Nat) (y1 : List V) (y2 : Int) (y3 : List V) (y4 : List V) (y5 : List V) (y6 : List V) : Option V := bif decide (y2 < 64) then must (inB y2 64) (PI.asInt
 .u32 y1[y2.toNat * 1]? fun x1 => PI.asInt .u32 y6[0]? fun x2 => PI.asInt .u32 y6[1]? fun x3 => PI.asInt .u32 y6[2]? fun x4 => PI.asInt .u32 y6[3]? fun x5 => PI.asInt .u32 y6[4]? fun x6 => PI.asInt
 .u32 y6[5]? fun x7 => PI.asInt .u32 y6[6]? fun x8 => PI.asInt .u32 y6[7]? fun x9 => must (inB y2 64) (PI.asInt .u32 y5[0 + y2.toNat * 1]? fun x10 => need (O.R 0 291 [V.agg [V.int .u32 x2, V.int .u32
 x3, V.int .u32 x4, V.int .u32 x5, V.int .u32 x6, V.int .u32 x7, V.int .u32 x8, V.int .u32 x9], V.int .u32 x10, V.int .u32 x1]) fun x11 => asTup (some x11) fun x12 => PI.asInt .u32 x12[0]? fun x13 =>
 PI.asInt .u32 x12[1]? fun x14 => PI.asInt .u32 x12[2]? fun x15 => PI.asInt .u32 x12[3]? fun x16 => PI.asInt .u32 x12[4]? fun x17 => PI.asInt .u32 x12[5]? fun x18 => PI.asInt .u32 x12[6]? fun x19 =>
 PI.asInt .u32 x12[7]? fun x20 => must ([V.int .u32 x13, V.int .u32 x14, V.int .u32 x15, V.int .u32 x16, V.int .u32 x17, V.int .u32 x18, V.int .u32 x19, V.int .u32 x20].length.beq 8 && true && (0 +
 [V.int .u32 x13, V.int .u32 x14, V.int .u32 x15, V.int .u32 x16, V.int .u32 x17, V.int .u32 x18, V.int .u32 x19, V.int .u32 x20].length).ble y6.length && flatB C 278 [V.int .u32 x13, V.int .u32 x14,
 V.int .u32 x15, V.int .u32 x16, V.int .u32 x17, V.int .u32 x18, V.int .u32 x19, V.int .u32 x20]) (O.L 0 248 2 [true, true, true, true, false, true] [] m [(2, V.ptr 0 0), (4, V.ptr 1 0), (5, V.ptr 2
 0), (11, V.ptr 3 0), (97, V.agg (renV.renL [] y1)), (98, V.int .i64 (IntKind.i64.wrap (y2 + 1)))] [Ob.box 278 y3 false, Ob.box 278 y4 false, Ob.box 306 y5 false, Ob.box 278 (splice y6 0 [V.int .u32
 x13, V.int .u32 x14, V.int .u32 x15, V.int .u32 x16, V.int .u32 x17, V.int .u32 x18, V.int .u32 x19, V.int .u32 x20]) false]))) else O.L 0 248 4 [true, true, true, true, true, false, true] [] k [(2,
 V.ptr 0 0), (4, V.ptr 1 0), (11, V.ptr 2 0), (109, V.int .i64 0)] [Ob.box 278 y3 false, Ob.box 278 y4 false, Ob.box 278 y6 false]
theorem e248l2 (k m q0 q1 : Nat) (y1 : List V) (y2 : Int) (y3 : List V) (y4 : List V) (y5 : List V) (y6 : List V) : runL C k 248 2 [true, true, true, true, false, true] [] (m + 1) [(2, V.ptr 0 0), (4,
 V.ptr 1 0), (5, V.ptr 2 0), (11, V.ptr 3 0), (97, V.agg y1), (98, V.int .i64 y2)] [Ob.box 278 y3 false, Ob.box 278 y4 false, Ob.box 306 y5 false, Ob.box 278 y6 false] = T248l2 (orc C k) k m q0 q1 y1
 y2 y3 y4 y5 y6 := by kernel_rfl
theorem E248l2 (y1 : List V) (y2 : Int) (y3 : List V) (y4 : List V) (y5 : List V) (y6 : List V) {r : V} (h : T248l2 (orcE C) 0 0 0 0 y1 y2 y3 y4 y5 y6 = some r) : loopE C 248 2 [true, true, true, true,
 false, true] [] [(2, V.ptr 0 0), (4, V.ptr 1 0), (5, V.ptr 2 0), (11, V.ptr 3 0), (97, V.agg y1), (98, V.int .i64 y2)] [Ob.box 278 y3 false, Ob.box 278 y4 false, Ob.box 306 y5 false, Ob.box 278 y6
 false] = some r := ofL (j := 0) (F := fun s => T248l2 (orc C s.k) s.k s.m 0 0 y1 y2 y3 y4 y5 y6) (fs0 fun k m => e248l2 k m 0 0 y1 y2 y3 y4 y5 y6) (by
  unfold T248l2
  repeat' first | with_reducible exact cC | with_reducible refine cN cR fun _ => ?_ | with_reducible refine cT fun _ => ?_ | with_reducible refine cI fun _ => ?_ | with_reducible refine cM ?_ | with_reducible refine cF ?_ ?_ | with_reducible refine cN cC fun _ => ?_ | with_reducible exact cR | exact cD0 gK | exact cD0 gM) h

noncomputable def T291 (O : Orc) (k m q0 q1 : Nat) (y1 : Int) (y2 : Int) (y3 : Int) (y4 : Int) (y5 : Int) (y6 : Int) (y7 : Int) (y8 : Int) (y9 : Int) (y10 : Int) : Option V := need (O.R 0 302 [V.int
 .u32 y5, V.int .i64 6]) fun x1 => asTup (some x1) fun x2 => PI.asInt .u32 x2[0]? fun x3 => need (O.R 0 302 [V.int .u32 y5, V.int .i64 11]) fun x4 => asTup (some x4) fun x5 => PI.asInt .u32 x5[0]? fun
 x6 => need (O.R 0 302 [V.int .u32 y5, V.int .i64 25]) fun x7 => asTup (some x7) fun x8 => PI.asInt .u32 x8[0]? fun x9 => need (O.R 0 302 [V.int .u32 y1, V.int .i64 2]) fun x10 => asTup (some x10) fun
 x11 => PI.asInt .u32 x11[0]? fun x12 => need (O.R 0 302 [V.int .u32 y1, V.int .i64 13]) fun x13 => asTup (some x13) fun x14 => PI.asInt .u32 x14[0]? fun x15 => need (O.R 0 302 [V.int .u32 y1, V.int
 .i64 22]) fun x16 => asTup (some x16) fun x17 => PI.asInt .u32 x17[0]? fun x18 => some (V.tup [V.int .u32 (IntKind.u32.wrap (IntKind.u32.wrap (IntKind.u32.wrap (IntKind.u32.wrap (IntKind.u32.wrap (y8
 + PI.bits IntKind.u32 (fun x1 x2 => x1 ^^^ x2) (PI.bits IntKind.u32 (fun x1 x2 => x1 ^^^ x2) x3 x6) x9) + PI.bits IntKind.u32 (fun x1 x2 => x1 ^^^ x2) (PI.bits IntKind.u32 (fun x1 x2 => x1 &&& x2) y5
 y6) (PI.bits IntKind.u32 (fun x1 x2 => x1 &&& x2) (PI.bits IntKind.u32 (fun x1 x2 => x1 ^^^ x2) 4294967295 y5) y7)) + y10) + y9) + IntKind.u32.wrap (PI.bits IntKind.u32 (fun x1 x2 => x1 ^^^ x2)
 (PI.bits IntKind.u32 (fun x1 x2 => x1 ^^^ x2) x12 x15) x18 + PI.bits IntKind.u32 (fun x1 x2 => x1 ^^^ x2) (PI.bits IntKind.u32 (fun x1 x2 => x1 ^^^ x2) (PI.bits IntKind.u32 (fun x1 x2 => x1 &&& x2) y1
 y2) (PI.bits IntKind.u32 (fun x1 x2 => x1 &&& x2) y1 y3)) (PI.bits IntKind.u32 (fun x1 x2 => x1 &&& x2) y2 y3)))), V.int .u32 y1, V.int .u32 y2, V.int .u32 y3, V.int .u32 (IntKind.u32.wrap (y4 +
 IntKind.u32.wrap (IntKind.u32.wrap (IntKind.u32.wrap (IntKind.u32.wrap (y8 + PI.bits IntKind.u32 (fun x1 x2 => x1 ^^^ x2) (PI.bits IntKind.u32 (fun x1 x2 => x1 ^^^ x2) x3 x6) x9) + PI.bits IntKind.u32
 (fun x1 x2 => x1 ^^^ x2) (PI.bits IntKind.u32 (fun x1 x2 => x1 &&& x2) y5 y6) (PI.bits IntKind.u32 (fun x1 x2 => x1 &&& x2) (PI.bits IntKind.u32 (fun x1 x2 => x1 ^^^ x2) 4294967295 y5) y7)) + y10) +
 y9))), V.int .u32 y5, V.int .u32 y6, V.int .u32 y7])
theorem e291 (k m q0 q1 : Nat) (y1 : Int) (y2 : Int) (y3 : Int) (y4 : Int) (y5 : Int) (y6 : Int) (y7 : Int) (y8 : Int) (y9 : Int) (y10 : Int) : runV C (k + 1) 291 [V.agg [V.int .u32 y1, V.int .u32 y2,
 V.int .u32 y3, V.int .u32 y4, V.int .u32 y5, V.int .u32 y6, V.int .u32 y7, V.int .u32 y8], V.int .u32 y9, V.int .u32 y10] = T291 (orc C k) k m q0 q1 y1 y2 y3 y4 y5 y6 y7 y8 y9 y10 := by kernel_rfl
theorem E291 (y1 : Int) (y2 : Int) (y3 : Int) (y4 : Int) (y5 : Int) (y6 : Int) (y7 : Int) (y8 : Int) (y9 : Int) (y10 : Int) {r : V} (h : T291 (orcE C) 0 0 0 0 y1 y2 y3 y4 y5 y6 y7 y8 y9 y10 = some r) :
 runE C 291 [V.agg [V.int .u32 y1, V.int .u32 y2, V.int .u32 y3, V.int .u32 y4, V.int .u32 y5, V.int .u32 y6, V.int .u32 y7, V.int .u32 y8], V.int .u32 y9, V.int .u32 y10] = some r := ofR (F := fun s
 => T291 (orc C s.k) s.k s.m 0 0 y1 y2 y3 y4 y5 y6 y7 y8 y9 y10) (fun k => e291 k k 0 0 y1 y2 y3 y4 y5 y6 y7 y8 y9 y10) (by
  unfold T291
  repeat' first | with_reducible exact cC | with_reducible refine cN cR fun _ => ?_ | with_reducible refine cT fun _ => ?_ | with_reducible refine cI fun _ => ?_ | with_reducible refine cN cC fun _ => ?_ | with_reducible exact cR) h

noncomputable def T248l3 (O : Orc) (k m q0 q1 : Nat) (y1 : Int) (y2 : List V) (y3 : List V) (y4 : List V) : Option V := bif decide (y1 < 8) then must (inB y1 8) (PI.asInt .u32 y4[0 + y1.toNat * 1]? fun
 x1 => must (inB y1 8) (PI.asInt .u32 y2[0 + y1.toNat * 1]? fun x2 => must (inB y1 8) (must ((V.int .u32 (IntKind.u32.wrap (x1 + x2))).solid && true && (0 + y1.toNat * 1 + 1).ble y4.length && flatB C
 278 [V.int .u32 (IntKind.u32.wrap (x1 + x2))]) (O.L 0 248 4 [true, true, true, true, true, false, true] [] m [(2, V.ptr 0 0), (4, V.ptr 1 0), (11, V.ptr 2 0), (109, V.int .i64 (IntKind.i64.wrap (y1 +
 1)))] [Ob.box 278 y2 false, Ob.box 278 y3 false, Ob.box 278 (splice y4 (0 + y1.toNat * 1) [V.int .u32 (IntKind.u32.wrap (x1 + x2))]) false])))) else PI.asInt .u32 y4[0]? fun x3 => PI.asInt .u32 y4[1]?
 fun x4 => PI.asInt .u32 y4[2]? fun x5 => PI.asInt .u32 y4[3]? fun x6 => PI.asInt .u32 y4[4]? fun x7 => PI.asInt .u32 y4[5]? fun x8 => PI.asInt .u32 y4[6]? fun x9 => PI.asInt .u32 y4[7]? fun x10 =>
 must ([V.int .u32 x3, V.int .u32 x4, V.int .u32 x5, V.int .u32 x6, V.int .u32 x7, V.int .u32 x8, V.int .u32 x9, V.int .u32 x10].length.beq 8 && true && (0 + [V.int .u32 x3, V.int .u32 x4, V.int .u32
 x5, V.int .u32 x6, V.int .u32 x7, V.int .u32 x8, V.int .u32 x9, V.int .u32 x10].length).ble y3.length && flatB C 278 [V.int .u32 x3, V.int .u32 x4, V.int .u32 x5, V.int .u32 x6, V.int .u32 x7, V.int
 .u32 x8, V.int .u32 x9, V.int .u32 x10]) (some (V.tup [V.int .u32 x3, V.int .u32 x4, V.int .u32 x5, V.int .u32 x6, V.int .u32 x7, V.int .u32 x8, V.int .u32 x9, V.int .u32 x10]))
theorem e248l3 (k m q0 q1 : Nat) (y1 : Int) (y2 : List V) (y3 : List V) (y4 : List V) : runL C k 248 4 [true, true, true, true, true, false, true] [] (m + 1) [(2, V.ptr 0 0), (4, V.ptr 1 0), (11, V.ptr
 2 0), (109, V.int .i64 y1)] [Ob.box 278 y2 false, Ob.box 278 y3 false, Ob.box 278 y4 false] = T248l3 (orc C k) k m q0 q1 y1 y2 y3 y4 := by kernel_rfl
theorem E248l3 (y1 : Int) (y2 : List V) (y3 : List V) (y4 : List V) {r : V} (h : T248l3 (orcE C) 0 0 0 0 y1 y2 y3 y4 = some r) : loopE C 248 4 [true, true, true, true, true, false, true] [] [(2, V.ptr
 0 0), (4, V.ptr 1 0), (11, V.ptr 2 0), (109, V.int .i64 y1)] [Ob.box 278 y2 false, Ob.box 278 y3 false, Ob.box 278 y4 false] = some r := ofL (j := 0) (F := fun s => T248l3 (orc C s.k) s.k s.m 0 0 y1
 y2 y3 y4) (fs0 fun k m => e248l3 k m 0 0 y1 y2 y3 y4) (by
  unfold T248l3
  repeat' first | with_reducible exact cC | with_reducible refine cI fun _ => ?_ | with_reducible refine cM ?_ | with_reducible refine cF ?_ ?_ | exact cD0 gM) h

noncomputable def T302 (O : Orc) (k m q0 q1 : Nat) (y1 : Int) (y2 : Int) : Option V := need (O.R 0 289 [V.int .u32 y1, V.int .i64 (IntKind.i64.wrap (0 - y2))]) fun x1 => asTup (some x1) fun x2 =>
 PI.asInt .u32 x2[0]? fun x3 => some (V.tup [V.int .u32 x3])
theorem e302 (k m q0 q1 : Nat) (y1 : Int) (y2 : Int) : runV C (k + 1) 302 [V.int .u32 y1, V.int .i64 y2] = T302 (orc C k) k m q0 q1 y1 y2 := by kernel_rfl
theorem E302 (y1 : Int) (y2 : Int) {r : V} (h : T302 (orcE C) 0 0 0 0 y1 y2 = some r) : runE C 302 [V.int .u32 y1, V.int .i64 y2] = some r := ofR (F := fun s => T302 (orc C s.k) s.k s.m 0 0 y1 y2) (fun
 k => e302 k k 0 0 y1 y2) (by
  unfold T302
  repeat' first | with_reducible exact cC | with_reducible refine cN cR fun _ => ?_ | with_reducible refine cT fun _ => ?_ | with_reducible refine cI fun _ => ?_ | with_reducible refine cN cC fun _ => ?_ | with_reducible exact cR) h

end Go.Proofs.Ytehpmolckdmibaa.EqB

