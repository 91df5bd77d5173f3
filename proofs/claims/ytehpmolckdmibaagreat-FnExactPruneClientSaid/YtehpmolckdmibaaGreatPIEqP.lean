/-
  The functions of a table, as the interpreter tells them. Printed by a program.
-/
import Derived.Test.YtehpmolckdmibaaGreatPIEqPx
namespace Go.Proofs.YtehpmolckdmibaaGreat.EqP
open Go Go.PI
set_option maxRecDepth 100000
set_option maxHeartbeats 4000000
set_option linter.unusedVariables false
set_option linter.unusedSimpArgs false

noncomputable def T114 (O : Orc) (k m q0 q1 : Nat) (y1 : Nat) (y2 : List V) (y3 : Int) : Option V := need (O.R 0 177 [V.sl y1 y2, V.int .i64 y3]) fun x1 => asTup (some x1) fun x2 => PI.asInt .i64
 x2[0]? fun x3 => some (V.tup [V.bool (decide (x3 ≥ 0))])
theorem e114 (k m q0 q1 : Nat) (y1 : Nat) (y2 : List V) (y3 : Int) : runV C (k + 1) 114 [V.sl y1 y2, V.int .i64 y3] = T114 (orc C k) k m q0 q1 y1 y2 y3 := by kernel_rfl
theorem E114 (y1 : Nat) (y2 : List V) (y3 : Int) {r : V} (h : T114 (orcE C) 0 0 0 0 y1 y2 y3 = some r) : runE C 114 [V.sl y1 y2, V.int .i64 y3] = some r := ofR (F := fun s => T114 (orc C s.k) s.k s.m 0
 0 y1 y2 y3) (fun k => e114 k k 0 0 y1 y2 y3) (by
  unfold T114
  repeat' first | with_reducible exact cC | with_reducible refine cN cR fun _ => ?_ | with_reducible refine cT fun _ => ?_ | with_reducible refine cI fun _ => ?_ | with_reducible refine cN cC fun _ => ?_ | with_reducible exact cR) h

noncomputable def T40l1 (O : Orc) (k m q0 q1 : Nat) (y1 : Nat) (y2 : List V) (y3 : Int) (y4 : Int) (y5 : Int) (y6 : Nat) (y7 : List V) (y8 : Int) (y9 : Nat) (y10 : List V) : Option V := bif decide (y4
 < y3) then must (inB y4 y1) (asSl y2[y4.toNat * 6]? fun x1 x2 => PI.asInt .i64 y2[y4.toNat * 6 + 1]? fun x3 => PI.asInt .i64 y2[y4.toNat * 6 + 1 + 1]? fun x4 => PI.asInt .i64 y2[y4.toNat * 6 + 1 + 1 +
 1]? fun x5 => asSl y2[y4.toNat * 6 + 1 + 1 + 1 + 1]? fun x6 x7 => PI.asInt .i64 y2[y4.toNat * 6 + 1 + 1 + 1 + 1 + 1]? fun x8 => need (O.R 0 98 [V.agg [V.sl x1 x2, V.int .i64 x3, V.int .i64 x4, V.int
 .i64 x5, V.sl x6 x7, V.int .i64 x8]]) fun x9 => asTup (some x9) fun x10 => asOsl x10[0]? fun x11 x12 => PI.asInt .i64 x10[1]? fun x13 => PI.asInt .i64 x10[2]? fun x14 => PI.asInt .i64 x10[3]? fun x15
 => asOsl x10[4]? fun x16 x17 => PI.asInt .i64 x10[5]? fun x18 => must (x12.all flatV) (must (x17.all flatV) (must (true && (y9 + 1).ble 140737488355328 && ((y9 + 1) * 80).ble 140737488355328) (O.L 0
 40 0 [true, true, false, true] [] m [(4, V.ptr 0 0), (5, V.ptr 2 0), (10, V.sl y1 y2), (11, V.int .i64 y3), (12, V.int .i64 (IntKind.i64.wrap (y4 + 1)))] [Ob.box 26 [V.ref 1, V.int .i64 y5] false,
 Ob.nrow [] 28 y6 y7, Ob.box 26 [V.ref 3, V.int .i64 y8] false, Ob.nrow [] 28 (y9 + 1) (y10 ++ [V.own false 5 1 x11 x12, V.int .i64 x13, V.int .i64 x14, V.int .i64 x15, V.own false 5 1 x16 x17, V.int
 .i64 x18])])))) else some (V.tup [V.osl y9 y10, V.int .i64 y8])
theorem e40l1 (k m q0 q1 : Nat) (y1 : Nat) (y2 : List V) (y3 : Int) (y4 : Int) (y5 : Int) (y6 : Nat) (y7 : List V) (y8 : Int) (y9 : Nat) (y10 : List V) : runL C k 40 0 [true, true, false, true] [] (m +
 1) [(4, V.ptr 0 0), (5, V.ptr 2 0), (10, V.sl y1 y2), (11, V.int .i64 y3), (12, V.int .i64 y4)] [Ob.box 26 [V.ref 1, V.int .i64 y5] false, Ob.nrow [] 28 y6 y7, Ob.box 26 [V.ref 3, V.int .i64 y8]
 false, Ob.nrow [] 28 y9 y10] = T40l1 (orc C k) k m q0 q1 y1 y2 y3 y4 y5 y6 y7 y8 y9 y10 := by kernel_rfl
theorem E40l1 (y1 : Nat) (y2 : List V) (y3 : Int) (y4 : Int) (y5 : Int) (y6 : Nat) (y7 : List V) (y8 : Int) (y9 : Nat) (y10 : List V) {r : V} (h : T40l1 (orcE C) 0 0 0 0 y1 y2 y3 y4 y5 y6 y7 y8 y9 y10
 = some r) : loopE C 40 0 [true, true, false, true] [] [(4, V.ptr 0 0), (5, V.ptr 2 0), (10, V.sl y1 y2), (11, V.int .i64 y3), (12, V.int .i64 y4)] [Ob.box 26 [V.ref 1, V.int .i64 y5] false, Ob.nrow []
 28 y6 y7, Ob.box 26 [V.ref 3, V.int .i64 y8] false, Ob.nrow [] 28 y9 y10] = some r := ofL (j := 0) (F := fun s => T40l1 (orc C s.k) s.k s.m 0 0 y1 y2 y3 y4 y5 y6 y7 y8 y9 y10) (fs0 fun k m => e40l1 k
 m 0 0 y1 y2 y3 y4 y5 y6 y7 y8 y9 y10) (by
  unfold T40l1
  repeat' first | with_reducible exact cC | with_reducible refine cN cR fun _ => ?_ | with_reducible refine cT fun _ => ?_ | with_reducible refine cI fun _ => ?_ | with_reducible refine cM ?_ | with_reducible refine cF ?_ ?_ | with_reducible refine cL fun _ _ => ?_ | with_reducible refine cO fun _ _ => ?_ | with_reducible refine cN cC fun _ => ?_ | with_reducible exact cR | exact cD0 gM) h

noncomputable def T184 (O : Orc) (k m q0 q1 : Nat) (y1 : Nat) (y2 : List V) (y3 : Nat) (y4 : List V) : Option V := bif (↑y1 : Int) != (↑y3 : Int) then some (V.tup [V.bool false]) else O.L 0 184 0
 [true, true, false, true] [] k [(0, V.sl y1 y2), (1, V.sl y3 y4), (5, V.int .i64 0)] []
theorem e184 (k m q0 q1 : Nat) (y1 : Nat) (y2 : List V) (y3 : Nat) (y4 : List V) : runV C (k + 1) 184 [V.sl y1 y2, V.sl y3 y4] = T184 (orc C k) k m q0 q1 y1 y2 y3 y4 := by kernel_rfl
theorem E184 (y1 : Nat) (y2 : List V) (y3 : Nat) (y4 : List V) {r : V} (h : T184 (orcE C) 0 0 0 0 y1 y2 y3 y4 = some r) : runE C 184 [V.sl y1 y2, V.sl y3 y4] = some r := ofR (F := fun s => T184 (orc C
 s.k) s.k s.m 0 0 y1 y2 y3 y4) (fun k => e184 k k 0 0 y1 y2 y3 y4) (by
  unfold T184
  repeat' first | with_reducible exact cC | with_reducible refine cF ?_ ?_ | exact cD0 gK) h

noncomputable def T127l1 (O : Orc) (k m q0 q1 : Nat) (y1 : Int) (y2 : Int) (y3 : Nat) (y4 : List V) : Option V := bif decide (y2 < (↑y3 : Int)) then must (inB y2 y3) (must ([V.int .u8 (IntKind.u8.wrap
 y1)].length.beq 1 && (y2.toNat * 1 + [V.int .u8 (IntKind.u8.wrap y1)].length).ble y4.length) (O.X 0 127 [0] [Ob.row 5 0 [] false] 0 [true, false, true] [] m [(0, V.ref 0), (1, V.int .i64
 (IntKind.i64.wrap (y1 + 1))), (5, V.int .i64 (IntKind.i64.wrap (y2 + 1)))] [Ob.row 5 y3 (splice y4 (y2.toNat * 1) [V.int .u8 (IntKind.u8.wrap y1)]) false])) else must (false || y4.all flatV) (some
 (V.tup [V.int .i64 y1, V.osl y3 y4]))
theorem e127l1 (k m q0 q1 : Nat) (y1 : Int) (y2 : Int) (y3 : Nat) (y4 : List V) : runLW C k 127 [0] [Ob.row 5 0 [] false] 0 [true, false, true] [] (m + 1) [(0, V.ref 0), (1, V.int .i64 y1), (5, V.int
 .i64 y2)] [Ob.row 5 y3 y4 false] = T127l1 (orc C k) k m q0 q1 y1 y2 y3 y4 := by kernel_rfl
theorem E127l1 (y1 : Int) (y2 : Int) (y3 : Nat) (y4 : List V) {r : V} (h : T127l1 (orcE C) 0 0 0 0 y1 y2 y3 y4 = some r) : loopWE C 127 [0] [Ob.row 5 0 [] false] 0 [true, false, true] [] [(0, V.ref 0),
 (1, V.int .i64 y1), (5, V.int .i64 y2)] [Ob.row 5 y3 y4 false] = some r := ofX (j := 0) (F := fun s => T127l1 (orc C s.k) s.k s.m 0 0 y1 y2 y3 y4) (fs0 fun k m => e127l1 k m 0 0 y1 y2 y3 y4) (by
  unfold T127l1
  repeat' first | with_reducible exact cC | with_reducible refine cM ?_ | with_reducible refine cF ?_ ?_ | exact cX0 gM) h

noncomputable def T185 (O : Orc) (k m q0 q1 : Nat) (y1 : Nat) (y2 : List V) (y3 : Int) : Option V := O.L 0 185 0 [true, false, true] [] k [(0, V.sl y1 y2), (1, V.int .i64 y3), (5, V.int .i64 0)] []
theorem e185 (k m q0 q1 : Nat) (y1 : Nat) (y2 : List V) (y3 : Int) : runV C (k + 1) 185 [V.sl y1 y2, V.int .i64 y3] = T185 (orc C k) k m q0 q1 y1 y2 y3 := by kernel_rfl
theorem E185 (y1 : Nat) (y2 : List V) (y3 : Int) {r : V} (h : T185 (orcE C) 0 0 0 0 y1 y2 y3 = some r) : runE C 185 [V.sl y1 y2, V.int .i64 y3] = some r := ofR (F := fun s => T185 (orc C s.k) s.k s.m 0
 0 y1 y2 y3) (fun k => e185 k k 0 0 y1 y2 y3) (by
  unfold T185
  repeat' first | with_reducible exact cC | exact cD0 gK) h

noncomputable def T183l1 (O : Orc) (k m q0 q1 : Nat) (y1 : Nat) (y2 : List V) (y3 : Int) (y4 : Nat) (y5 : List V) : Option V := bif decide (y3 < (↑y1 : Int)) then must (inB y3 y1) (PI.asInt .u8
 y2[y3.toNat * 1]? fun x1 => must (inB y3 y4) (must ([V.int .u8 x1].length.beq 1 && (y3.toNat * 1 + [V.int .u8 x1].length).ble y5.length) (O.L 0 183 0 [true, true, false, true] [] m [(0, V.sl y1 y2),
 (3, V.ref 0), (4, V.int .i64 (IntKind.i64.wrap (y3 + 1)))] [Ob.row 5 y4 (splice y5 (y3.toNat * 1) [V.int .u8 x1]) false]))) else must (false || y5.all flatV) (some (V.tup [V.osl y4 y5]))
theorem e183l1 (k m q0 q1 : Nat) (y1 : Nat) (y2 : List V) (y3 : Int) (y4 : Nat) (y5 : List V) : runL C k 183 0 [true, true, false, true] [] (m + 1) [(0, V.sl y1 y2), (3, V.ref 0), (4, V.int .i64 y3)]
 [Ob.row 5 y4 y5 false] = T183l1 (orc C k) k m q0 q1 y1 y2 y3 y4 y5 := by kernel_rfl
theorem E183l1 (y1 : Nat) (y2 : List V) (y3 : Int) (y4 : Nat) (y5 : List V) {r : V} (h : T183l1 (orcE C) 0 0 0 0 y1 y2 y3 y4 y5 = some r) : loopE C 183 0 [true, true, false, true] [] [(0, V.sl y1 y2),
 (3, V.ref 0), (4, V.int .i64 y3)] [Ob.row 5 y4 y5 false] = some r := ofL (j := 0) (F := fun s => T183l1 (orc C s.k) s.k s.m 0 0 y1 y2 y3 y4 y5) (fs0 fun k m => e183l1 k m 0 0 y1 y2 y3 y4 y5) (by
  unfold T183l1
  repeat' first | with_reducible exact cC | with_reducible refine cI fun _ => ?_ | with_reducible refine cM ?_ | with_reducible refine cF ?_ ?_ | exact cD0 gM) h

noncomputable def T205 (O : Orc) (k m q0 q1 : Nat) (y1 : Nat) (y2 : List V) : Option V := O.L 0 205 0 [true, true, false, true] [] k [(0, V.sl y1 y2), (3, V.int .i64 0), (4, V.int .i64 0)] []
theorem e205 (k m q0 q1 : Nat) (y1 : Nat) (y2 : List V) : runV C (k + 1) 205 [V.sl y1 y2] = T205 (orc C k) k m q0 q1 y1 y2 := by kernel_rfl
theorem E205 (y1 : Nat) (y2 : List V) {r : V} (h : T205 (orcE C) 0 0 0 0 y1 y2 = some r) : runE C 205 [V.sl y1 y2] = some r := ofR (F := fun s => T205 (orc C s.k) s.k s.m 0 0 y1 y2) (fun k => e205 k k
 0 0 y1 y2) (by
  unfold T205
  repeat' first | with_reducible exact cC | exact cD0 gK) h

noncomputable def T154 (O : Orc) (k m q0 q1 : Nat) (y1 : Nat) (y2 : List V) (y3 : Nat) (y4 : List V) : Option V := O.L 0 154 0 [true, false, true] [] k [(0, V.sl y1 y2), (1, V.sl y3 y4), (5, V.int .i64
 0)] []
theorem e154 (k m q0 q1 : Nat) (y1 : Nat) (y2 : List V) (y3 : Nat) (y4 : List V) : runV C (k + 1) 154 [V.sl y1 y2, V.sl y3 y4] = T154 (orc C k) k m q0 q1 y1 y2 y3 y4 := by kernel_rfl
theorem E154 (y1 : Nat) (y2 : List V) (y3 : Nat) (y4 : List V) {r : V} (h : T154 (orcE C) 0 0 0 0 y1 y2 y3 y4 = some r) : runE C 154 [V.sl y1 y2, V.sl y3 y4] = some r := ofR (F := fun s => T154 (orc C
 s.k) s.k s.m 0 0 y1 y2 y3 y4) (fun k => e154 k k 0 0 y1 y2 y3 y4) (by
  unfold T154
  repeat' first | with_reducible exact cC | exact cD0 gK) h

noncomputable def T206 (O : Orc) (k m q0 q1 : Nat) (y1 : Nat) (y2 : List V) (y3 : Int) (y4 : Int) (y5 : Int) (y6 : Nat) (y7 : List V) (y8 : Int) : Option V := need (O.R 0 134 [V.int .i64 y3]) fun x1 =>
 asTup (some x1) fun x2 => asSl x2[0]? fun x3 x4 => need (O.R 0 134 [V.int .i64 y4]) fun x5 => asTup (some x5) fun x6 => asSl x6[0]? fun x7 x8 => need (O.R 0 134 [V.int .i64 y5]) fun x9 => asTup (some
 x9) fun x10 => asSl x10[0]? fun x11 x12 => some (V.tup [V.sl 5 [V.sl y1 y2, V.sl x3 x4, V.sl x7 x8, V.sl x11 x12, V.sl y6 y7]])
theorem e206 (k m q0 q1 : Nat) (y1 : Nat) (y2 : List V) (y3 : Int) (y4 : Int) (y5 : Int) (y6 : Nat) (y7 : List V) (y8 : Int) : runV C (k + 1) 206 [V.agg [V.sl y1 y2, V.int .i64 y3, V.int .i64 y4, V.int
 .i64 y5, V.sl y6 y7, V.int .i64 y8]] = T206 (orc C k) k m q0 q1 y1 y2 y3 y4 y5 y6 y7 y8 := by kernel_rfl
theorem E206 (y1 : Nat) (y2 : List V) (y3 : Int) (y4 : Int) (y5 : Int) (y6 : Nat) (y7 : List V) (y8 : Int) {r : V} (h : T206 (orcE C) 0 0 0 0 y1 y2 y3 y4 y5 y6 y7 y8 = some r) : runE C 206 [V.agg [V.sl
 y1 y2, V.int .i64 y3, V.int .i64 y4, V.int .i64 y5, V.sl y6 y7, V.int .i64 y8]] = some r := ofR (F := fun s => T206 (orc C s.k) s.k s.m 0 0 y1 y2 y3 y4 y5 y6 y7 y8) (fun k => e206 k k 0 0 y1 y2 y3 y4
 y5 y6 y7 y8) (by
  unfold T206
  repeat' first | with_reducible exact cC | with_reducible refine cN cR fun _ => ?_ | with_reducible refine cT fun _ => ?_ | with_reducible refine cL fun _ _ => ?_ | with_reducible refine cN cC fun _ => ?_ | with_reducible exact cR) h

noncomputable def T135 (O : Orc) (k m q0 q1 : Nat) (y1 : Nat) (y2 : List V) : Option V := O.L 0 135 0 [true, true, false, true] [] k [(0, V.sl y1 y2), (3, V.ref 0), (4, V.int .i64 0)] [Ob.row 5 0 []
 false]
theorem e135 (k m q0 q1 : Nat) (y1 : Nat) (y2 : List V) : runV C (k + 1) 135 [V.sl y1 y2] = T135 (orc C k) k m q0 q1 y1 y2 := by kernel_rfl
theorem E135 (y1 : Nat) (y2 : List V) {r : V} (h : T135 (orcE C) 0 0 0 0 y1 y2 = some r) : runE C 135 [V.sl y1 y2] = some r := ofR (F := fun s => T135 (orc C s.k) s.k s.m 0 0 y1 y2) (fun k => e135 k k
 0 0 y1 y2) (by
  unfold T135
  repeat' first | with_reducible exact cC | exact cD0 gK) h

noncomputable def T134 (O : Orc) (k m q0 q1 : Nat) (y1 : Int) : Option V := O.L 0 134 0 [true, true, false, true] [] k [(0, V.int .i64 y1), (3, V.ref 0), (4, V.int .i64 6)] [Ob.row 5 0 [] false]
theorem e134 (k m q0 q1 : Nat) (y1 : Int) : runV C (k + 1) 134 [V.int .i64 y1] = T134 (orc C k) k m q0 q1 y1 := by kernel_rfl
theorem E134 (y1 : Int) {r : V} (h : T134 (orcE C) 0 0 0 0 y1 = some r) : runE C 134 [V.int .i64 y1] = some r := ofR (F := fun s => T134 (orc C s.k) s.k s.m 0 0 y1) (fun k => e134 k k 0 0 y1) (by
  unfold T134
  repeat' first | with_reducible exact cC | exact cD0 gK) h

noncomputable def T187 (O : Orc) (k m q0 q1 : Nat) (y1 : Nat) (y2 : List V) : Option V := need (O.R 0 213 []) fun x1 => PI.asAgg (some x1) fun x2 => must (x2.length.beq 64 && true && (0 +
 x2.length).ble 64 && flatB C 219 x2) (need (O.R 0 214 []) fun x3 => asTup (some x3) fun x4 => PI.asInt .i64 x4[0]? fun x5 => PI.asInt .i64 x4[1]? fun x6 => PI.asInt .i64 x4[2]? fun x7 => PI.asInt .i64
 x4[3]? fun x8 => PI.asInt .i64 x4[4]? fun x9 => PI.asInt .i64 x4[5]? fun x10 => PI.asInt .i64 x4[6]? fun x11 => PI.asInt .i64 x4[7]? fun x12 => need (O.R 0 215 [V.sl y1 y2]) fun x13 => asTup (some
 x13) fun x14 => asSl x14[0]? fun x15 x16 => O.L 0 187 0 [true, true, true, true, false, true] [] k [(3, V.ptr 0 0), (4, V.ptr 1 0), (5, V.sl x15 x16), (6, V.int .i64 0)] [Ob.box 219 (splice [V.int
 .i64 0, V.int .i64 0, V.int .i64 0, V.int .i64 0, V.int .i64 0, V.int .i64 0, V.int .i64 0, V.int .i64 0, V.int .i64 0, V.int .i64 0, V.int .i64 0, V.int .i64 0, V.int .i64 0, V.int .i64 0, V.int .i64
 0, V.int .i64 0, V.int .i64 0, V.int .i64 0, V.int .i64 0, V.int .i64 0, V.int .i64 0, V.int .i64 0, V.int .i64 0, V.int .i64 0, V.int .i64 0, V.int .i64 0, V.int .i64 0, V.int .i64 0, V.int .i64 0,
 V.int .i64 0, V.int .i64 0, V.int .i64 0, V.int .i64 0, V.int .i64 0, V.int .i64 0, V.int .i64 0, V.int .i64 0, V.int .i64 0, V.int .i64 0, V.int .i64 0, V.int .i64 0, V.int .i64 0, V.int .i64 0,
 V.int .i64 0, V.int .i64 0, V.int .i64 0, V.int .i64 0, V.int .i64 0, V.int .i64 0, V.int .i64 0, V.int .i64 0, V.int .i64 0, V.int .i64 0, V.int .i64 0, V.int .i64 0, V.int .i64 0, V.int .i64 0,
 V.int .i64 0, V.int .i64 0, V.int .i64 0, V.int .i64 0, V.int .i64 0, V.int .i64 0, V.int .i64 0] 0 x2) false, Ob.box 221 [V.int .i64 x5, V.int .i64 x6, V.int .i64 x7, V.int .i64 x8, V.int .i64 x9,
 V.int .i64 x10, V.int .i64 x11, V.int .i64 x12] false])
theorem e187 (k m q0 q1 : Nat) (y1 : Nat) (y2 : List V) : runV C (k + 1) 187 [V.sl y1 y2] = T187 (orc C k) k m q0 q1 y1 y2 := by kernel_rfl
theorem E187 (y1 : Nat) (y2 : List V) {r : V} (h : T187 (orcE C) 0 0 0 0 y1 y2 = some r) : runE C 187 [V.sl y1 y2] = some r := ofR (F := fun s => T187 (orc C s.k) s.k s.m 0 0 y1 y2) (fun k => e187 k k
 0 0 y1 y2) (by
  unfold T187
  repeat' first | with_reducible exact cC | with_reducible refine cN cR fun _ => ?_ | with_reducible refine cT fun _ => ?_ | with_reducible refine cI fun _ => ?_ | with_reducible refine cM ?_ | with_reducible refine cL fun _ _ => ?_ | with_reducible refine cA fun _ => ?_ | with_reducible refine cN cC fun _ => ?_ | with_reducible exact cR | exact cD0 gK) h

noncomputable def T123l1 (O : Orc) (k m q0 q1 : Nat) (y1 : Nat) (y2 : List V) (y3 : Nat) (y4 : List V) (y5 : Int) : Option V := bif decide (y5 < (↑y1 : Int)) then must (inB y5 y1) (must (decide
 (y5.toNat * 1 < y2.length)) (asSl y2[y5.toNat * 1]? fun x1 x2 => need (O.R 0 85 [V.sl x1 x2, V.sl y3 y4]) fun x3 => asTup (some x3) fun x4 => PI.asBool x4[0]? fun x5 => bif x5 then some (V.tup [V.int
 .i64 y5]) else O.L 0 123 0 [true, false, true] [] m [(0, V.sl y1 y2), (1, V.sl y3 y4), (5, V.int .i64 (IntKind.i64.wrap (y5 + 1)))] [])) else some (V.tup [V.int .i64 (-1)])
theorem e123l1 (k m q0 q1 : Nat) (y1 : Nat) (y2 : List V) (y3 : Nat) (y4 : List V) (y5 : Int) : runL C k 123 0 [true, false, true] [] (m + 1) [(0, V.sl y1 y2), (1, V.sl y3 y4), (5, V.int .i64 y5)] [] =
 T123l1 (orc C k) k m q0 q1 y1 y2 y3 y4 y5 := by kernel_rfl
theorem E123l1 (y1 : Nat) (y2 : List V) (y3 : Nat) (y4 : List V) (y5 : Int) {r : V} (h : T123l1 (orcE C) 0 0 0 0 y1 y2 y3 y4 y5 = some r) : loopE C 123 0 [true, false, true] [] [(0, V.sl y1 y2), (1,
 V.sl y3 y4), (5, V.int .i64 y5)] [] = some r := ofL (j := 0) (F := fun s => T123l1 (orc C s.k) s.k s.m 0 0 y1 y2 y3 y4 y5) (fs0 fun k m => e123l1 k m 0 0 y1 y2 y3 y4 y5) (by
  unfold T123l1
  repeat' first | with_reducible exact cC | with_reducible refine cN cR fun _ => ?_ | with_reducible refine cT fun _ => ?_ | with_reducible refine cM ?_ | with_reducible refine cF ?_ ?_ | with_reducible refine cB fun _ => ?_ | with_reducible refine cL fun _ _ => ?_ | with_reducible refine cN cC fun _ => ?_ | with_reducible exact cR | exact cD0 gM) h

noncomputable def T170l1 (O : Orc) (k m q0 q1 : Nat) (y1 : Nat) (y2 : List V) (y3 : Nat) (y4 : List V) (y5 : Int) (y6 : Nat) (y7 : List V) : Option V := bif decide (y5 < (↑y3 : Int)) then must (inB y5
 y3) (PI.asInt .i64 y4[y5.toNat * 1]? fun x1 => must (inB x1 y1) (asSl y2[x1.toNat * 6]? fun x2 x3 => PI.asInt .i64 y2[x1.toNat * 6 + 1]? fun x4 => PI.asInt .i64 y2[x1.toNat * 6 + 1 + 1]? fun x5 =>
 PI.asInt .i64 y2[x1.toNat * 6 + 1 + 1 + 1]? fun x6 => asSl y2[x1.toNat * 6 + 1 + 1 + 1 + 1]? fun x7 x8 => PI.asInt .i64 y2[x1.toNat * 6 + 1 + 1 + 1 + 1 + 1]? fun x9 => must (true && (y6 + 1).ble
 140737488355328 && ((y6 + 1) * 80).ble 140737488355328) (O.L 0 170 0 [true, true, true, false, true] [] m [(0, V.sl y1 y2), (7, V.sl y3 y4), (8, V.ref 0), (9, V.int .i64 (IntKind.i64.wrap (y5 + 1)))]
 [Ob.row 28 (y6 + 1) (y7 ++ [V.sl x2 x3, V.int .i64 x4, V.int .i64 x5, V.int .i64 x6, V.sl x7 x8, V.int .i64 x9]) false]))) else some (V.tup [V.sl y6 y7])
theorem e170l1 (k m q0 q1 : Nat) (y1 : Nat) (y2 : List V) (y3 : Nat) (y4 : List V) (y5 : Int) (y6 : Nat) (y7 : List V) : runL C k 170 0 [true, true, true, false, true] [] (m + 1) [(0, V.sl y1 y2), (7,
 V.sl y3 y4), (8, V.ref 0), (9, V.int .i64 y5)] [Ob.row 28 y6 y7 false] = T170l1 (orc C k) k m q0 q1 y1 y2 y3 y4 y5 y6 y7 := by kernel_rfl
theorem E170l1 (y1 : Nat) (y2 : List V) (y3 : Nat) (y4 : List V) (y5 : Int) (y6 : Nat) (y7 : List V) {r : V} (h : T170l1 (orcE C) 0 0 0 0 y1 y2 y3 y4 y5 y6 y7 = some r) : loopE C 170 0 [true, true,
 true, false, true] [] [(0, V.sl y1 y2), (7, V.sl y3 y4), (8, V.ref 0), (9, V.int .i64 y5)] [Ob.row 28 y6 y7 false] = some r := ofL (j := 0) (F := fun s => T170l1 (orc C s.k) s.k s.m 0 0 y1 y2 y3 y4 y5
 y6 y7) (fs0 fun k m => e170l1 k m 0 0 y1 y2 y3 y4 y5 y6 y7) (by
  unfold T170l1
  repeat' first | with_reducible exact cC | with_reducible refine cI fun _ => ?_ | with_reducible refine cM ?_ | with_reducible refine cF ?_ ?_ | with_reducible refine cL fun _ _ => ?_ | exact cD0 gM) h

noncomputable def T207 (O : Orc) (k m q0 q1 : Nat) (y1 : Int) (y2 : Int) : Option V := bif decide (y1 < y2) then some (V.tup [V.int .i64 y1]) else some (V.tup [V.int .i64 y2])
theorem e207 (k m q0 q1 : Nat) (y1 : Int) (y2 : Int) : runV C (k + 1) 207 [V.int .i64 y1, V.int .i64 y2] = T207 (orc C k) k m q0 q1 y1 y2 := by kernel_rfl
theorem E207 (y1 : Int) (y2 : Int) {r : V} (h : T207 (orcE C) 0 0 0 0 y1 y2 = some r) : runE C 207 [V.int .i64 y1, V.int .i64 y2] = some r := ofR (F := fun s => T207 (orc C s.k) s.k s.m 0 0 y1 y2) (fun
 k => e207 k k 0 0 y1 y2) (by
  unfold T207
  repeat' first | with_reducible exact cC | with_reducible refine cF ?_ ?_) h

noncomputable def T208 (O : Orc) (k m q0 q1 : Nat) (y1 : Int) (y2 : Int) : Option V := bif decide (y1 > y2) then some (V.tup [V.int .i64 y1]) else some (V.tup [V.int .i64 y2])
theorem e208 (k m q0 q1 : Nat) (y1 : Int) (y2 : Int) : runV C (k + 1) 208 [V.int .i64 y1, V.int .i64 y2] = T208 (orc C k) k m q0 q1 y1 y2 := by kernel_rfl
theorem E208 (y1 : Int) (y2 : Int) {r : V} (h : T208 (orcE C) 0 0 0 0 y1 y2 = some r) : runE C 208 [V.int .i64 y1, V.int .i64 y2] = some r := ofR (F := fun s => T208 (orc C s.k) s.k s.m 0 0 y1 y2) (fun
 k => e208 k k 0 0 y1 y2) (by
  unfold T208
  repeat' first | with_reducible exact cC | with_reducible refine cF ?_ ?_) h

noncomputable def T181l1 (O : Orc) (k m q0 q1 : Nat) (y1 : Nat) (y2 : List V) (y3 : Int) (y4 : Int) : Option V := bif decide (y4 < (↑y1 : Int)) then must (inB y4 y1) (PI.asInt .i64 y2[y4.toNat * 6 +
 3]? fun x1 => must (decide (0 ≤ IntKind.u64.wrap x1)) (O.L 0 181 0 [true, true, false, true] [] m [(0, V.sl y1 y2), (3, V.int .i64 (IntKind.i64.wrap (y3 + IntKind.i64.wrap (1 * 2 ^ min
 (IntKind.u64.wrap x1).toNat 64)))), (4, V.int .i64 (IntKind.i64.wrap (y4 + 1)))] [])) else some (V.tup [V.int .i64 y3])
theorem e181l1 (k m q0 q1 : Nat) (y1 : Nat) (y2 : List V) (y3 : Int) (y4 : Int) : runL C k 181 0 [true, true, false, true] [] (m + 1) [(0, V.sl y1 y2), (3, V.int .i64 y3), (4, V.int .i64 y4)] [] =
 T181l1 (orc C k) k m q0 q1 y1 y2 y3 y4 := by kernel_rfl
theorem E181l1 (y1 : Nat) (y2 : List V) (y3 : Int) (y4 : Int) {r : V} (h : T181l1 (orcE C) 0 0 0 0 y1 y2 y3 y4 = some r) : loopE C 181 0 [true, true, false, true] [] [(0, V.sl y1 y2), (3, V.int .i64
 y3), (4, V.int .i64 y4)] [] = some r := ofL (j := 0) (F := fun s => T181l1 (orc C s.k) s.k s.m 0 0 y1 y2 y3 y4) (fs0 fun k m => e181l1 k m 0 0 y1 y2 y3 y4) (by
  unfold T181l1
  repeat' first | with_reducible exact cC | with_reducible refine cI fun _ => ?_ | with_reducible refine cM ?_ | with_reducible refine cF ?_ ?_ | exact cD0 gM) h

noncomputable def T115 (O : Orc) (k m q0 q1 : Nat) (y1 : Nat) (y2 : List V) : Option V := need (O.R 6 193 [V.sl y1 y2, V.fn 178 []]) fun x1 => asTup (some x1) fun x2 => PI.asInt .i64 x2[0]? fun x3 =>
 some (V.tup [V.bool !decide (x3 ≥ 0)])
theorem e115 (k m q0 q1 : Nat) (y1 : Nat) (y2 : List V) : runV C (k + 8) 115 [V.sl y1 y2] = T115 (orc C k) k m q0 q1 y1 y2 := by kernel_rfl
theorem E115 (y1 : Nat) (y2 : List V) {r : V} (h : T115 (orcE C) 0 0 0 0 y1 y2 = some r) : runE C 115 [V.sl y1 y2] = some r := ofR (F := fun s => T115 (orc C s.k) s.k s.m 0 0 y1 y2) (fun k => e115 k k
 0 0 y1 y2) (by
  unfold T115
  repeat' first | with_reducible exact cC | with_reducible refine cN cR fun _ => ?_ | with_reducible refine cT fun _ => ?_ | with_reducible refine cI fun _ => ?_ | with_reducible refine cN cC fun _ => ?_ | with_reducible exact cR) h

noncomputable def T116 (O : Orc) (k m q0 q1 : Nat) (y1 : Int) : Option V := need (O.R 0 47 [V.int .i64 y1, V.int .i64 0, V.int .i64 40]) fun x1 => asTup (some x1) fun x2 => PI.asBool x2[0]? fun x3 =>
 some (V.tup [V.bool x3])
theorem e116 (k m q0 q1 : Nat) (y1 : Int) : runV C (k + 1) 116 [V.int .i64 y1] = T116 (orc C k) k m q0 q1 y1 := by kernel_rfl
theorem E116 (y1 : Int) {r : V} (h : T116 (orcE C) 0 0 0 0 y1 = some r) : runE C 116 [V.int .i64 y1] = some r := ofR (F := fun s => T116 (orc C s.k) s.k s.m 0 0 y1) (fun k => e116 k k 0 0 y1) (by
  unfold T116
  repeat' first | with_reducible exact cC | with_reducible refine cN cR fun _ => ?_ | with_reducible refine cT fun _ => ?_ | with_reducible refine cB fun _ => ?_ | with_reducible refine cN cC fun _ => ?_ | with_reducible exact cR) h

noncomputable def T173 (O : Orc) (k m q0 q1 : Nat) (y1 : Nat) (y2 : List V) : Option V := O.L 0 173 0 [true, true, false, true] [] k [(3, V.int .i64 0), (6, V.sl y1 y2), (7, V.int .i64 (↑y1 : Int)),
 (8, V.int .i64 0)] []
theorem e173 (k m q0 q1 : Nat) (y1 : Nat) (y2 : List V) : runV C (k + 1) 173 [V.sl y1 y2] = T173 (orc C k) k m q0 q1 y1 y2 := by kernel_rfl
theorem E173 (y1 : Nat) (y2 : List V) {r : V} (h : T173 (orcE C) 0 0 0 0 y1 y2 = some r) : runE C 173 [V.sl y1 y2] = some r := ofR (F := fun s => T173 (orc C s.k) s.k s.m 0 0 y1 y2) (fun k => e173 k k
 0 0 y1 y2) (by
  unfold T173
  repeat' first | with_reducible exact cC | exact cD0 gK) h

noncomputable def T119 (O : Orc) (k m q0 q1 : Nat) (y1 : Nat) (y2 : List V) (y3 : Int) (y4 : Int) (y5 : Int) (y6 : Nat) (y7 : List V) (y8 : Int) : Option V := need (O.R 0 120 [V.int .i64 y3]) fun x1 =>
 asTup (some x1) fun x2 => asSl x2[0]? fun x3 x4 => need (O.R 0 120 [V.int .i64 y4]) fun x5 => asTup (some x5) fun x6 => asSl x6[0]? fun x7 x8 => need (O.R 0 120 [V.int .i64 y5]) fun x9 => asTup (some
 x9) fun x10 => asSl x10[0]? fun x11 x12 => some (V.tup [V.sl 5 [V.sl y1 y2, V.sl x3 x4, V.sl x7 x8, V.sl x11 x12, V.sl y6 y7]])
theorem e119 (k m q0 q1 : Nat) (y1 : Nat) (y2 : List V) (y3 : Int) (y4 : Int) (y5 : Int) (y6 : Nat) (y7 : List V) (y8 : Int) : runV C (k + 1) 119 [V.agg [V.sl y1 y2, V.int .i64 y3, V.int .i64 y4, V.int
 .i64 y5, V.sl y6 y7, V.int .i64 y8]] = T119 (orc C k) k m q0 q1 y1 y2 y3 y4 y5 y6 y7 y8 := by kernel_rfl
theorem E119 (y1 : Nat) (y2 : List V) (y3 : Int) (y4 : Int) (y5 : Int) (y6 : Nat) (y7 : List V) (y8 : Int) {r : V} (h : T119 (orcE C) 0 0 0 0 y1 y2 y3 y4 y5 y6 y7 y8 = some r) : runE C 119 [V.agg [V.sl
 y1 y2, V.int .i64 y3, V.int .i64 y4, V.int .i64 y5, V.sl y6 y7, V.int .i64 y8]] = some r := ofR (F := fun s => T119 (orc C s.k) s.k s.m 0 0 y1 y2 y3 y4 y5 y6 y7 y8) (fun k => e119 k k 0 0 y1 y2 y3 y4
 y5 y6 y7 y8) (by
  unfold T119
  repeat' first | with_reducible exact cC | with_reducible refine cN cR fun _ => ?_ | with_reducible refine cT fun _ => ?_ | with_reducible refine cL fun _ _ => ?_ | with_reducible refine cN cC fun _ => ?_ | with_reducible exact cR) h

noncomputable def T118 (O : Orc) (k m q0 q1 : Nat) (y1 : Nat) (y2 : List V) : Option V := need (O.R 0 180 [V.sl y1 y2]) fun x1 => asTup (some x1) fun x2 => asSl x2[0]? fun x3 x4 => PI.asBool x2[1]? fun
 x5 => some (V.tup [V.sl x3 x4])
theorem e118 (k m q0 q1 : Nat) (y1 : Nat) (y2 : List V) : runV C (k + 1) 118 [V.sl y1 y2] = T118 (orc C k) k m q0 q1 y1 y2 := by kernel_rfl
theorem E118 (y1 : Nat) (y2 : List V) {r : V} (h : T118 (orcE C) 0 0 0 0 y1 y2 = some r) : runE C 118 [V.sl y1 y2] = some r := ofR (F := fun s => T118 (orc C s.k) s.k s.m 0 0 y1 y2) (fun k => e118 k k
 0 0 y1 y2) (by
  unfold T118
  repeat' first | with_reducible exact cC | with_reducible refine cN cR fun _ => ?_ | with_reducible refine cT fun _ => ?_ | with_reducible refine cB fun _ => ?_ | with_reducible refine cL fun _ _ => ?_ | with_reducible refine cN cC fun _ => ?_ | with_reducible exact cR) h

noncomputable def T120 (O : Orc) (k m q0 q1 : Nat) (y1 : Int) : Option V := O.L 0 120 0 [true, true, false, true] [] k [(0, V.int .i64 y1), (3, V.ref 0), (4, V.int .i64 6)] [Ob.row 5 7 [V.int .u8 0,
 V.int .u8 0, V.int .u8 0, V.int .u8 0, V.int .u8 0, V.int .u8 0, V.int .u8 0] false]
theorem e120 (k m q0 q1 : Nat) (y1 : Int) : runV C (k + 1) 120 [V.int .i64 y1] = T120 (orc C k) k m q0 q1 y1 := by kernel_rfl
theorem E120 (y1 : Int) {r : V} (h : T120 (orcE C) 0 0 0 0 y1 = some r) : runE C 120 [V.int .i64 y1] = some r := ofR (F := fun s => T120 (orc C s.k) s.k s.m 0 0 y1) (fun k => e120 k k 0 0 y1) (by
  unfold T120
  repeat' first | with_reducible exact cC | exact cD0 gK) h

noncomputable def T117 (O : Orc) (k m q0 q1 : Nat) (y1 : Nat) (y2 : List V) : Option V := O.L 0 117 0 [true, true, false, true] [] k [(3, V.ref 0), (13, V.sl y1 y2), (14, V.int .i64 (↑y1 : Int)), (15,
 V.int .i64 0)] [Ob.row 5 0 [] false]
theorem e117 (k m q0 q1 : Nat) (y1 : Nat) (y2 : List V) : runV C (k + 1) 117 [V.sl y1 y2] = T117 (orc C k) k m q0 q1 y1 y2 := by kernel_rfl
theorem E117 (y1 : Nat) (y2 : List V) {r : V} (h : T117 (orcE C) 0 0 0 0 y1 y2 = some r) : runE C 117 [V.sl y1 y2] = some r := ofR (F := fun s => T117 (orc C s.k) s.k s.m 0 0 y1 y2) (fun k => e117 k k
 0 0 y1 y2) (by
  unfold T117
  repeat' first | with_reducible exact cC | exact cD0 gK) h

noncomputable def T174l1 (O : Orc) (k m q0 q1 : Nat) (y1 : Nat) (y2 : List V) (y3 : Nat) (y4 : List V) (y5 : Int) (y6 : Int) : Option V := bif decide (y6 < y5) then must (inB y6 y1) (asSl y2[y6.toNat *
 6]? fun x1 x2 => PI.asInt .i64 y2[y6.toNat * 6 + 1]? fun x3 => PI.asInt .i64 y2[y6.toNat * 6 + 1 + 1]? fun x4 => PI.asInt .i64 y2[y6.toNat * 6 + 1 + 1 + 1]? fun x5 => asSl y2[y6.toNat * 6 + 1 + 1 + 1
 + 1]? fun x6 x7 => PI.asInt .i64 y2[y6.toNat * 6 + 1 + 1 + 1 + 1 + 1]? fun x8 => need (O.R 0 110 [V.agg [V.sl x1 x2, V.int .i64 x3, V.int .i64 x4, V.int .i64 x5, V.sl x6 x7, V.int .i64 x8], V.pin
 [V.sl y3 y4] 0]) fun x9 => asTup (some x9) fun x10 => PI.asBool x10[0]? fun x11 => bif x11 then some (V.tup [V.int .i64 y6]) else O.L 0 174 0 [true, false, true] [] m [(0, V.sl y1 y2), (1, V.fn 110
 [V.pin [V.sl y3 y4] 0]), (7, V.int .i64 y5), (8, V.int .i64 (IntKind.i64.wrap (y6 + 1)))] []) else some (V.tup [V.int .i64 (-1)])
theorem e174l1 (k m q0 q1 : Nat) (y1 : Nat) (y2 : List V) (y3 : Nat) (y4 : List V) (y5 : Int) (y6 : Int) : runL C k 174 0 [true, false, true] [] (m + 1) [(0, V.sl y1 y2), (1, V.fn 110 [V.pin [V.sl y3
 y4] 0]), (7, V.int .i64 y5), (8, V.int .i64 y6)] [] = T174l1 (orc C k) k m q0 q1 y1 y2 y3 y4 y5 y6 := by kernel_rfl
theorem E174l1 (y1 : Nat) (y2 : List V) (y3 : Nat) (y4 : List V) (y5 : Int) (y6 : Int) {r : V} (h : T174l1 (orcE C) 0 0 0 0 y1 y2 y3 y4 y5 y6 = some r) : loopE C 174 0 [true, false, true] [] [(0, V.sl
 y1 y2), (1, V.fn 110 [V.pin [V.sl y3 y4] 0]), (7, V.int .i64 y5), (8, V.int .i64 y6)] [] = some r := ofL (j := 0) (F := fun s => T174l1 (orc C s.k) s.k s.m 0 0 y1 y2 y3 y4 y5 y6) (fs0 fun k m =>
 e174l1 k m 0 0 y1 y2 y3 y4 y5 y6) (by
  unfold T174l1
  repeat' first | with_reducible exact cC | with_reducible refine cN cR fun _ => ?_ | with_reducible refine cT fun _ => ?_ | with_reducible refine cI fun _ => ?_ | with_reducible refine cM ?_ | with_reducible refine cF ?_ ?_ | with_reducible refine cB fun _ => ?_ | with_reducible refine cL fun _ _ => ?_ | with_reducible refine cN cC fun _ => ?_ | with_reducible exact cR | exact cD0 gM) h

noncomputable def T174s2 (O : Orc) (k m q0 q1 : Nat) (y1 : Nat) (y2 : List V) (y3 : Nat) (y4 : List V) (y5 : Int) (y6 : Int) (y7 : Int) (y8 : Nat) (y9 : List V) (y10 : Int) : Option V := O.L 0 174 0
 [true, false, true] [] k [(0, V.sl y1 y2), (1, V.fn 175 [V.pin [V.sl y3 y4, V.int .i64 y5, V.int .i64 y6, V.int .i64 y7, V.sl y8 y9, V.int .i64 y10] 0]), (7, V.int .i64 (↑y1 : Int)), (8, V.int .i64
 0)] []
theorem e174s2 (k m q0 q1 : Nat) (y1 : Nat) (y2 : List V) (y3 : Nat) (y4 : List V) (y5 : Int) (y6 : Int) (y7 : Int) (y8 : Nat) (y9 : List V) (y10 : Int) : runV C (k + 1) 174 [V.sl y1 y2, V.fn 175
 [V.pin [V.sl y3 y4, V.int .i64 y5, V.int .i64 y6, V.int .i64 y7, V.sl y8 y9, V.int .i64 y10] 0]] = T174s2 (orc C k) k m q0 q1 y1 y2 y3 y4 y5 y6 y7 y8 y9 y10 := by kernel_rfl
theorem E174s2 (y1 : Nat) (y2 : List V) (y3 : Nat) (y4 : List V) (y5 : Int) (y6 : Int) (y7 : Int) (y8 : Nat) (y9 : List V) (y10 : Int) {r : V} (h : T174s2 (orcE C) 0 0 0 0 y1 y2 y3 y4 y5 y6 y7 y8 y9
 y10 = some r) : runE C 174 [V.sl y1 y2, V.fn 175 [V.pin [V.sl y3 y4, V.int .i64 y5, V.int .i64 y6, V.int .i64 y7, V.sl y8 y9, V.int .i64 y10] 0]] = some r := ofR (F := fun s => T174s2 (orc C s.k) s.k
 s.m 0 0 y1 y2 y3 y4 y5 y6 y7 y8 y9 y10) (fun k => e174s2 k k 0 0 y1 y2 y3 y4 y5 y6 y7 y8 y9 y10) (by
  unfold T174s2
  repeat' first | with_reducible exact cC | exact cD0 gK) h

noncomputable def T106l1 (O : Orc) (k m q0 q1 : Nat) (y1 : Nat) (y2 : List V) (y3 : Nat) (y4 : List V) (y5 : Int) (y6 : Int) (y7 : Nat) (y8 : List V) : Option V := bif decide (y6 < y5) then must (inB
 y6 y3) (PI.asInt .i64 y4[y6.toNat * 1]? fun x1 => must (inB x1 y1) (asSl y2[x1.toNat * 6]? fun x2 x3 => PI.asInt .i64 y2[x1.toNat * 6 + 1]? fun x4 => PI.asInt .i64 y2[x1.toNat * 6 + 1 + 1]? fun x5 =>
 PI.asInt .i64 y2[x1.toNat * 6 + 1 + 1 + 1]? fun x6 => asSl y2[x1.toNat * 6 + 1 + 1 + 1 + 1]? fun x7 x8 => PI.asInt .i64 y2[x1.toNat * 6 + 1 + 1 + 1 + 1 + 1]? fun x9 => must (true && (y7 + 1).ble
 140737488355328 && ((y7 + 1) * 80).ble 140737488355328) (O.L 0 106 0 [true, true, false, true] [] m [(0, V.sl y1 y2), (5, V.ref 0), (9, V.sl y3 y4), (10, V.int .i64 y5), (11, V.int .i64
 (IntKind.i64.wrap (y6 + 1)))] [Ob.row 28 (y7 + 1) (y8 ++ [V.sl x2 x3, V.int .i64 x4, V.int .i64 x5, V.int .i64 x6, V.sl x7 x8, V.int .i64 x9]) false]))) else some (V.tup [V.sl y7 y8])
theorem e106l1 (k m q0 q1 : Nat) (y1 : Nat) (y2 : List V) (y3 : Nat) (y4 : List V) (y5 : Int) (y6 : Int) (y7 : Nat) (y8 : List V) : runL C k 106 0 [true, true, false, true] [] (m + 1) [(0, V.sl y1 y2),
 (5, V.ref 0), (9, V.sl y3 y4), (10, V.int .i64 y5), (11, V.int .i64 y6)] [Ob.row 28 y7 y8 false] = T106l1 (orc C k) k m q0 q1 y1 y2 y3 y4 y5 y6 y7 y8 := by kernel_rfl
theorem E106l1 (y1 : Nat) (y2 : List V) (y3 : Nat) (y4 : List V) (y5 : Int) (y6 : Int) (y7 : Nat) (y8 : List V) {r : V} (h : T106l1 (orcE C) 0 0 0 0 y1 y2 y3 y4 y5 y6 y7 y8 = some r) : loopE C 106 0
 [true, true, false, true] [] [(0, V.sl y1 y2), (5, V.ref 0), (9, V.sl y3 y4), (10, V.int .i64 y5), (11, V.int .i64 y6)] [Ob.row 28 y7 y8 false] = some r := ofL (j := 0) (F := fun s => T106l1 (orc C
 s.k) s.k s.m 0 0 y1 y2 y3 y4 y5 y6 y7 y8) (fs0 fun k m => e106l1 k m 0 0 y1 y2 y3 y4 y5 y6 y7 y8) (by
  unfold T106l1
  repeat' first | with_reducible exact cC | with_reducible refine cI fun _ => ?_ | with_reducible refine cM ?_ | with_reducible refine cF ?_ ?_ | with_reducible refine cL fun _ _ => ?_ | exact cD0 gM) h

noncomputable def T46l2 (O : Orc) (k m q0 q1 : Nat) (y1 : Nat) (y2 : List V) (y3 : Int) (y4 : Int) (y5 : Int) (y6 : Int) (y7 : Int) (y8 : Int) (y9 : Nat) (y10 : List V) (y11 : Int) (y12 : Int) : Option
 V := bif decide (y12 < y11) then must (inB y12 y9) (asSl y10[y12.toNat * 6]? fun x1 x2 => PI.asInt .i64 y10[y12.toNat * 6 + 1]? fun x3 => PI.asInt .i64 y10[y12.toNat * 6 + 1 + 1]? fun x4 => PI.asInt
 .i64 y10[y12.toNat * 6 + 1 + 1 + 1]? fun x5 => asSl y10[y12.toNat * 6 + 1 + 1 + 1 + 1]? fun x6 x7 => PI.asInt .i64 y10[y12.toNat * 6 + 1 + 1 + 1 + 1 + 1]? fun x8 => must (decide (0 ≤ x5)) (O.L 0 46 2
 [true, true, false, true, false, true, true, false, false, true, true, false, true] [q0] m [(0, V.sl y1 y2), (3, V.int .i64 y3), (4, V.int .i64 y4), (5, V.int .i64 y5), (6, V.int .i64
 (IntKind.i64.wrap (y6 + IntKind.i64.wrap (1 * 2 ^ min x5.toNat 64)))), (10, V.int .i64 y7), (11, V.int .i64 y8), (18, V.sl y9 y10), (19, V.int .i64 y11), (20, V.int .i64 (IntKind.i64.wrap (y12 + 1)))]
 [])) else bif decide (y6 > y4) then O.L 0 46 0 [true, true, false, true] [] q0 [(0, V.sl y1 y2), (3, V.int .i64 y5), (4, V.int .i64 y6), (10, V.int .i64 y7), (11, V.int .i64 (IntKind.i64.wrap (y8 +
 1)))] [] else O.L 0 46 0 [true, true, false, true] [] q0 [(0, V.sl y1 y2), (3, V.int .i64 y3), (4, V.int .i64 y4), (10, V.int .i64 y7), (11, V.int .i64 (IntKind.i64.wrap (y8 + 1)))] []
theorem e46l2 (k m q0 q1 : Nat) (y1 : Nat) (y2 : List V) (y3 : Int) (y4 : Int) (y5 : Int) (y6 : Int) (y7 : Int) (y8 : Int) (y9 : Nat) (y10 : List V) (y11 : Int) (y12 : Int) : runL C k 46 2 [true, true,
 false, true, false, true, true, false, false, true, true, false, true] [q0] (m + 1) [(0, V.sl y1 y2), (3, V.int .i64 y3), (4, V.int .i64 y4), (5, V.int .i64 y5), (6, V.int .i64 y6), (10, V.int .i64
 y7), (11, V.int .i64 y8), (18, V.sl y9 y10), (19, V.int .i64 y11), (20, V.int .i64 y12)] [] = T46l2 (orc C k) k m q0 q1 y1 y2 y3 y4 y5 y6 y7 y8 y9 y10 y11 y12 := by kernel_rfl
theorem E46l2 (y1 : Nat) (y2 : List V) (y3 : Int) (y4 : Int) (y5 : Int) (y6 : Int) (y7 : Int) (y8 : Int) (y9 : Nat) (y10 : List V) (y11 : Int) (y12 : Int) {r : V} (h : T46l2 (orcE C) 0 0 0 0 y1 y2 y3
 y4 y5 y6 y7 y8 y9 y10 y11 y12 = some r) : loopE C 46 2 [true, true, false, true, false, true, true, false, false, true, true, false, true] [0] [(0, V.sl y1 y2), (3, V.int .i64 y3), (4, V.int .i64 y4),
 (5, V.int .i64 y5), (6, V.int .i64 y6), (10, V.int .i64 y7), (11, V.int .i64 y8), (18, V.sl y9 y10), (19, V.int .i64 y11), (20, V.int .i64 y12)] [] = some r := ofL (j := 0) (F := fun s => T46l2 (orc C
 s.k) s.k s.m (s.fs.getD 0 0) 0 y1 y2 y3 y4 y5 y6 y7 y8 y9 y10 y11 y12) (fs1 fun k m q0 => e46l2 k m q0 0 y1 y2 y3 y4 y5 y6 y7 y8 y9 y10 y11 y12) (by
  unfold T46l2
  repeat' first | with_reducible exact cC | with_reducible refine cI fun _ => ?_ | with_reducible refine cM ?_ | with_reducible refine cF ?_ ?_ | with_reducible refine cL fun _ _ => ?_ | exact cD0 (gF (i := 0) (by decide)) | exact cD1 gM (gF (i := 0) (by decide))) h

noncomputable def T172 (O : Orc) (k m q0 q1 : Nat) (y1 : Nat) (y2 : List V) : Option V := O.X 0 172 [0] [Ob.row 2 0 [] false] 0 [true] [] k [(0, V.ref 0), (2, V.int .i64 0), (3, V.int .i64
 (IntKind.i64.wrap ((↑y1 : Int) - 1)))] [Ob.row 2 y1 y2 false]
theorem e172 (k m q0 q1 : Nat) (y1 : Nat) (y2 : List V) : runW C (k + 1) 172 [0] [V.ref 0] [Ob.row 2 y1 y2 false] = T172 (orc C k) k m q0 q1 y1 y2 := by kernel_rfl
theorem E172 (y1 : Nat) (y2 : List V) {r : V} (h : T172 (orcE C) 0 0 0 0 y1 y2 = some r) : runWE C 172 [0] [V.ref 0] [Ob.row 2 y1 y2 false] = some r := ofW (F := fun s => T172 (orc C s.k) s.k s.m 0 0
 y1 y2) (fun k => e172 k k 0 0 y1 y2) (by
  unfold T172
  repeat' first | with_reducible exact cC | exact cX0 gK) h

noncomputable def T171l1 (O : Orc) (k m q0 q1 : Nat) (y1 : Nat) (y2 : List V) (y3 : Nat) (y4 : List V) (y5 : Int) (y6 : Nat) (y7 : List V) (y8 : Int) (y9 : Int) (y10 : Int) (y11 : Nat) (y12 : List V)
 (y13 : Int) (y14 : Int) (y15 : Int) : Option V := bif decide (y15 < y14) then must (inB y15 y1) (PI.asInt .i64 y2[y15.toNat * 1]? fun x1 => need (O.R 0 105 [V.int .i64 x1, V.pin [V.sl y3 y4, V.int
 .i64 y5] 0, V.pin [V.sl y6 y7, V.int .i64 y8, V.int .i64 y9, V.int .i64 y10, V.sl y11 y12, V.int .i64 y13] 0]) fun x2 => asTup (some x2) fun x3 => PI.asBool x3[0]? fun x4 => bif x4 then some (V.tup
 [V.int .i64 y15]) else O.L 0 171 0 [true, false, true] [] m [(0, V.sl y1 y2), (1, V.fn 105 [V.pin [V.sl y3 y4, V.int .i64 y5] 0, V.pin [V.sl y6 y7, V.int .i64 y8, V.int .i64 y9, V.int .i64 y10, V.sl
 y11 y12, V.int .i64 y13] 0]), (7, V.int .i64 y14), (8, V.int .i64 (IntKind.i64.wrap (y15 + 1)))] []) else some (V.tup [V.int .i64 (-1)])
theorem e171l1 (k m q0 q1 : Nat) (y1 : Nat) (y2 : List V) (y3 : Nat) (y4 : List V) (y5 : Int) (y6 : Nat) (y7 : List V) (y8 : Int) (y9 : Int) (y10 : Int) (y11 : Nat) (y12 : List V) (y13 : Int) (y14 :
 Int) (y15 : Int) : runL C k 171 0 [true, false, true] [] (m + 1) [(0, V.sl y1 y2), (1, V.fn 105 [V.pin [V.sl y3 y4, V.int .i64 y5] 0, V.pin [V.sl y6 y7, V.int .i64 y8, V.int .i64 y9, V.int .i64 y10,
 V.sl y11 y12, V.int .i64 y13] 0]), (7, V.int .i64 y14), (8, V.int .i64 y15)] [] = T171l1 (orc C k) k m q0 q1 y1 y2 y3 y4 y5 y6 y7 y8 y9 y10 y11 y12 y13 y14 y15 := by kernel_rfl
theorem E171l1 (y1 : Nat) (y2 : List V) (y3 : Nat) (y4 : List V) (y5 : Int) (y6 : Nat) (y7 : List V) (y8 : Int) (y9 : Int) (y10 : Int) (y11 : Nat) (y12 : List V) (y13 : Int) (y14 : Int) (y15 : Int) {r
 : V} (h : T171l1 (orcE C) 0 0 0 0 y1 y2 y3 y4 y5 y6 y7 y8 y9 y10 y11 y12 y13 y14 y15 = some r) : loopE C 171 0 [true, false, true] [] [(0, V.sl y1 y2), (1, V.fn 105 [V.pin [V.sl y3 y4, V.int .i64 y5]
 0, V.pin [V.sl y6 y7, V.int .i64 y8, V.int .i64 y9, V.int .i64 y10, V.sl y11 y12, V.int .i64 y13] 0]), (7, V.int .i64 y14), (8, V.int .i64 y15)] [] = some r := ofL (j := 0) (F := fun s => T171l1 (orc
 C s.k) s.k s.m 0 0 y1 y2 y3 y4 y5 y6 y7 y8 y9 y10 y11 y12 y13 y14 y15) (fs0 fun k m => e171l1 k m 0 0 y1 y2 y3 y4 y5 y6 y7 y8 y9 y10 y11 y12 y13 y14 y15) (by
  unfold T171l1
  repeat' first | with_reducible exact cC | with_reducible refine cN cR fun _ => ?_ | with_reducible refine cT fun _ => ?_ | with_reducible refine cI fun _ => ?_ | with_reducible refine cM ?_ | with_reducible refine cF ?_ ?_ | with_reducible refine cB fun _ => ?_ | with_reducible refine cN cC fun _ => ?_ | with_reducible exact cR | exact cD0 gM) h

noncomputable def T105 (O : Orc) (k m q0 q1 : Nat) (y1 : Int) (y2 : Nat) (y3 : List V) (y4 : Int) (y5 : Nat) (y6 : List V) (y7 : Int) (y8 : Int) (y9 : Int) (y10 : Nat) (y11 : List V) (y12 : Int) :
 Option V := must (inB y1 y2) (PI.asInt .i64 y3[y1.toNat * 6 + 1]? fun x1 => some (V.tup [V.bool (decide (x1 > IntKind.i64.wrap (y7 - y4))), V.sl y2 y3, V.int .i64 y4, V.sl y5 y6, V.int .i64 y7, V.int
 .i64 y8, V.int .i64 y9, V.sl y10 y11, V.int .i64 y12]))
theorem e105 (k m q0 q1 : Nat) (y1 : Int) (y2 : Nat) (y3 : List V) (y4 : Int) (y5 : Nat) (y6 : List V) (y7 : Int) (y8 : Int) (y9 : Int) (y10 : Nat) (y11 : List V) (y12 : Int) : runW C (k + 1) 105 []
 [V.int .i64 y1, V.ptr 0 0, V.ptr 1 0] [Ob.box 26 [V.sl y2 y3, V.int .i64 y4] false, Ob.box 28 [V.sl y5 y6, V.int .i64 y7, V.int .i64 y8, V.int .i64 y9, V.sl y10 y11, V.int .i64 y12] false] = T105 (orc
 C k) k m q0 q1 y1 y2 y3 y4 y5 y6 y7 y8 y9 y10 y11 y12 := by kernel_rfl
theorem E105 (y1 : Int) (y2 : Nat) (y3 : List V) (y4 : Int) (y5 : Nat) (y6 : List V) (y7 : Int) (y8 : Int) (y9 : Int) (y10 : Nat) (y11 : List V) (y12 : Int) {r : V} (h : T105 (orcE C) 0 0 0 0 y1 y2 y3
 y4 y5 y6 y7 y8 y9 y10 y11 y12 = some r) : runWE C 105 [] [V.int .i64 y1, V.ptr 0 0, V.ptr 1 0] [Ob.box 26 [V.sl y2 y3, V.int .i64 y4] false, Ob.box 28 [V.sl y5 y6, V.int .i64 y7, V.int .i64 y8, V.int
 .i64 y9, V.sl y10 y11, V.int .i64 y12] false] = some r := ofW (F := fun s => T105 (orc C s.k) s.k s.m 0 0 y1 y2 y3 y4 y5 y6 y7 y8 y9 y10 y11 y12) (fun k => e105 k k 0 0 y1 y2 y3 y4 y5 y6 y7 y8 y9 y10
 y11 y12) (by
  unfold T105
  repeat' first | with_reducible exact cC | with_reducible refine cI fun _ => ?_ | with_reducible refine cM ?_) h

noncomputable def T177 (O : Orc) (k m q0 q1 : Nat) (y1 : Nat) (y2 : List V) (y3 : Int) : Option V := O.L 0 177 0 [true, false, true] [] k [(0, V.sl y1 y2), (1, V.int .i64 y3), (7, V.int .i64 (↑y1 :
 Int)), (8, V.int .i64 0)] []
theorem e177 (k m q0 q1 : Nat) (y1 : Nat) (y2 : List V) (y3 : Int) : runV C (k + 1) 177 [V.sl y1 y2, V.int .i64 y3] = T177 (orc C k) k m q0 q1 y1 y2 y3 := by kernel_rfl
theorem E177 (y1 : Nat) (y2 : List V) (y3 : Int) {r : V} (h : T177 (orcE C) 0 0 0 0 y1 y2 y3 = some r) : runE C 177 [V.sl y1 y2, V.int .i64 y3] = some r := ofR (F := fun s => T177 (orc C s.k) s.k s.m 0
 0 y1 y2 y3) (fun k => e177 k k 0 0 y1 y2 y3) (by
  unfold T177
  repeat' first | with_reducible exact cC | exact cD0 gK) h

noncomputable def T98 (O : Orc) (k m q0 q1 : Nat) (y1 : Nat) (y2 : List V) (y3 : Int) (y4 : Int) (y5 : Int) (y6 : Nat) (y7 : List V) (y8 : Int) : Option V := both (both (need (O.R 0 165 [V.sl y1 y2])
 fun x1 => asTup (some x1) fun x2 => asOsl x2[0]? fun x3 x4 => need (O.R 0 165 [V.sl y6 y7]) fun x5 => asTup (some x5) fun x6 => asOsl x6[0]? fun x7 x8 => must (false || x4.all flatV) (must (false ||
 x8.all flatV) (some (V.tup [V.osl x3 x4, V.int .i64 y3, V.int .i64 y4, V.int .i64 y5, V.osl x7 x8, V.int .i64 y8])))) (need (O.R 0 165 [V.sl y1 y2]) fun x9 => asTup (some x9) fun x10 => asOsl x10[0]?
 fun x11 x12 => need (O.R 0 165 [V.sl y6 y7]) fun x13 => asTup (some x13) fun x14 => asOsl x14[0]? fun x15 x16 => must (false || x12.all flatV) (must (false || x16.all flatV) (some (V.tup [V.osl x11
 x12, V.int .i64 y3, V.int .i64 y4, V.int .i64 y5, V.osl x15 x16, V.int .i64 y8]))))) (need (O.R 0 165 [V.sl y1 y2]) fun x17 => asTup (some x17) fun x18 => asOsl x18[0]? fun x19 x20 => need (O.R 0 165
 [V.sl y6 y7]) fun x21 => asTup (some x21) fun x22 => asOsl x22[0]? fun x23 x24 => must (false || x20.all flatV) (must (false || x24.all flatV) (some (V.tup [V.osl x19 x20, V.int .i64 y3, V.int .i64
 y4, V.int .i64 y5, V.osl x23 x24, V.int .i64 y8]))))
theorem e98 (k m q0 q1 : Nat) (y1 : Nat) (y2 : List V) (y3 : Int) (y4 : Int) (y5 : Int) (y6 : Nat) (y7 : List V) (y8 : Int) : runV C (k + 1) 98 [V.agg [V.sl y1 y2, V.int .i64 y3, V.int .i64 y4, V.int
 .i64 y5, V.sl y6 y7, V.int .i64 y8]] = T98 (orc C k) k m q0 q1 y1 y2 y3 y4 y5 y6 y7 y8 := by kernel_rfl
theorem E98 (y1 : Nat) (y2 : List V) (y3 : Int) (y4 : Int) (y5 : Int) (y6 : Nat) (y7 : List V) (y8 : Int) {r : V} (h : T98 (orcE C) 0 0 0 0 y1 y2 y3 y4 y5 y6 y7 y8 = some r) : runE C 98 [V.agg [V.sl y1
 y2, V.int .i64 y3, V.int .i64 y4, V.int .i64 y5, V.sl y6 y7, V.int .i64 y8]] = some r := ofR (F := fun s => T98 (orc C s.k) s.k s.m 0 0 y1 y2 y3 y4 y5 y6 y7 y8) (fun k => e98 k k 0 0 y1 y2 y3 y4 y5 y6
 y7 y8) (by
  unfold T98
  repeat' first | with_reducible exact cC | with_reducible refine cN cR fun _ => ?_ | with_reducible refine cT fun _ => ?_ | with_reducible refine cM ?_ | with_reducible refine cO fun _ _ => ?_ | with_reducible refine cN cC fun _ => ?_ | with_reducible refine cW ?_ ?_ | with_reducible exact cR) h

noncomputable def T184l1 (O : Orc) (k m q0 q1 : Nat) (y1 : Nat) (y2 : List V) (y3 : Nat) (y4 : List V) (y5 : Int) : Option V := bif decide (y5 < (↑y1 : Int)) then must (inB y5 y1) (PI.asInt .u8
 y2[y5.toNat * 1]? fun x1 => must (inB y5 y3) (PI.asInt .u8 y4[y5.toNat * 1]? fun x2 => bif x1 != x2 then some (V.tup [V.bool false]) else O.L 0 184 0 [true, true, false, true] [] m [(0, V.sl y1 y2),
 (1, V.sl y3 y4), (5, V.int .i64 (IntKind.i64.wrap (y5 + 1)))] [])) else some (V.tup [V.bool true])
theorem e184l1 (k m q0 q1 : Nat) (y1 : Nat) (y2 : List V) (y3 : Nat) (y4 : List V) (y5 : Int) : runL C k 184 0 [true, true, false, true] [] (m + 1) [(0, V.sl y1 y2), (1, V.sl y3 y4), (5, V.int .i64
 y5)] [] = T184l1 (orc C k) k m q0 q1 y1 y2 y3 y4 y5 := by kernel_rfl
theorem E184l1 (y1 : Nat) (y2 : List V) (y3 : Nat) (y4 : List V) (y5 : Int) {r : V} (h : T184l1 (orcE C) 0 0 0 0 y1 y2 y3 y4 y5 = some r) : loopE C 184 0 [true, true, false, true] [] [(0, V.sl y1 y2),
 (1, V.sl y3 y4), (5, V.int .i64 y5)] [] = some r := ofL (j := 0) (F := fun s => T184l1 (orc C s.k) s.k s.m 0 0 y1 y2 y3 y4 y5) (fs0 fun k m => e184l1 k m 0 0 y1 y2 y3 y4 y5) (by
  unfold T184l1
  repeat' first | with_reducible exact cC | with_reducible refine cI fun _ => ?_ | with_reducible refine cM ?_ | with_reducible refine cF ?_ ?_ | exact cD0 gM) h

noncomputable def T185l1 (O : Orc) (k m q0 q1 : Nat) (y1 : Nat) (y2 : List V) (y3 : Int) (y4 : Int) : Option V := bif decide (y4 < (↑y1 : Int)) then must (inB y4 y1) (PI.asInt .u8 y2[y4.toNat * 1]? fun
 x1 => bif x1 != IntKind.u8.wrap y3 then some (V.tup [V.int .i64 (-1)]) else O.L 0 185 0 [true, false, true] [] m [(0, V.sl y1 y2), (1, V.int .i64 (IntKind.i64.wrap (y3 + 1))), (5, V.int .i64
 (IntKind.i64.wrap (y4 + 1)))] []) else some (V.tup [V.int .i64 y3])
theorem e185l1 (k m q0 q1 : Nat) (y1 : Nat) (y2 : List V) (y3 : Int) (y4 : Int) : runL C k 185 0 [true, false, true] [] (m + 1) [(0, V.sl y1 y2), (1, V.int .i64 y3), (5, V.int .i64 y4)] [] = T185l1
 (orc C k) k m q0 q1 y1 y2 y3 y4 := by kernel_rfl
theorem E185l1 (y1 : Nat) (y2 : List V) (y3 : Int) (y4 : Int) {r : V} (h : T185l1 (orcE C) 0 0 0 0 y1 y2 y3 y4 = some r) : loopE C 185 0 [true, false, true] [] [(0, V.sl y1 y2), (1, V.int .i64 y3), (5,
 V.int .i64 y4)] [] = some r := ofL (j := 0) (F := fun s => T185l1 (orc C s.k) s.k s.m 0 0 y1 y2 y3 y4) (fs0 fun k m => e185l1 k m 0 0 y1 y2 y3 y4) (by
  unfold T185l1
  repeat' first | with_reducible exact cC | with_reducible refine cI fun _ => ?_ | with_reducible refine cM ?_ | with_reducible refine cF ?_ ?_ | exact cD0 gM) h

noncomputable def T205l1 (O : Orc) (k m q0 q1 : Nat) (y1 : Nat) (y2 : List V) (y3 : Int) (y4 : Int) : Option V := bif decide (y4 < (↑y1 : Int)) then O.L 0 205 2 [true, true, false, true, false, true,
 false, false, true] [m] k [(0, V.sl y1 y2), (3, V.int .i64 y3), (4, V.int .i64 y4), (5, V.int .i64 7)] [] else some (V.tup [V.int .i64 y3])
theorem e205l1 (k m q0 q1 : Nat) (y1 : Nat) (y2 : List V) (y3 : Int) (y4 : Int) : runL C k 205 0 [true, true, false, true] [] (m + 1) [(0, V.sl y1 y2), (3, V.int .i64 y3), (4, V.int .i64 y4)] [] =
 T205l1 (orc C k) k m q0 q1 y1 y2 y3 y4 := by kernel_rfl
theorem E205l1 (y1 : Nat) (y2 : List V) (y3 : Int) (y4 : Int) {r : V} (h : T205l1 (orcE C) 0 0 0 0 y1 y2 y3 y4 = some r) : loopE C 205 0 [true, true, false, true] [] [(0, V.sl y1 y2), (3, V.int .i64
 y3), (4, V.int .i64 y4)] [] = some r := ofL (j := 0) (F := fun s => T205l1 (orc C s.k) s.k s.m 0 0 y1 y2 y3 y4) (fs0 fun k m => e205l1 k m 0 0 y1 y2 y3 y4) (by
  unfold T205l1
  repeat' first | with_reducible exact cC | with_reducible refine cF ?_ ?_ | exact cD1 gK gM) h

noncomputable def T154l1 (O : Orc) (k m q0 q1 : Nat) (y1 : Nat) (y2 : List V) (y3 : Nat) (y4 : List V) (y5 : Int) : Option V := bif decide (y5 < (↑y1 : Int)) then bif decide (y5 < (↑y3 : Int)) then
 must (inB y5 y1) (PI.asInt .u8 y2[y5.toNat * 1]? fun x1 => must (inB y5 y3) (PI.asInt .u8 y4[y5.toNat * 1]? fun x2 => bif decide (x1 < x2) then some (V.tup [V.int .i64 (-1)]) else must (inB y5 y1)
 (PI.asInt .u8 y2[y5.toNat * 1]? fun x3 => must (inB y5 y3) (PI.asInt .u8 y4[y5.toNat * 1]? fun x4 => bif decide (x3 > x4) then some (V.tup [V.int .i64 1]) else O.L 0 154 0 [true, false, true] [] m
 [(0, V.sl y1 y2), (1, V.sl y3 y4), (5, V.int .i64 (IntKind.i64.wrap (y5 + 1)))] [])))) else bif decide ((↑y1 : Int) < (↑y3 : Int)) then some (V.tup [V.int .i64 (-1)]) else bif decide ((↑y1 : Int) >
 (↑y3 : Int)) then some (V.tup [V.int .i64 1]) else some (V.tup [V.int .i64 0]) else bif decide ((↑y1 : Int) < (↑y3 : Int)) then some (V.tup [V.int .i64 (-1)]) else bif decide ((↑y1 : Int) > (↑y3 :
 Int)) then some (V.tup [V.int .i64 1]) else some (V.tup [V.int .i64 0])
theorem e154l1 (k m q0 q1 : Nat) (y1 : Nat) (y2 : List V) (y3 : Nat) (y4 : List V) (y5 : Int) : runL C k 154 0 [true, false, true] [] (m + 1) [(0, V.sl y1 y2), (1, V.sl y3 y4), (5, V.int .i64 y5)] [] =
 T154l1 (orc C k) k m q0 q1 y1 y2 y3 y4 y5 := by kernel_rfl
theorem E154l1 (y1 : Nat) (y2 : List V) (y3 : Nat) (y4 : List V) (y5 : Int) {r : V} (h : T154l1 (orcE C) 0 0 0 0 y1 y2 y3 y4 y5 = some r) : loopE C 154 0 [true, false, true] [] [(0, V.sl y1 y2), (1,
 V.sl y3 y4), (5, V.int .i64 y5)] [] = some r := ofL (j := 0) (F := fun s => T154l1 (orc C s.k) s.k s.m 0 0 y1 y2 y3 y4 y5) (fs0 fun k m => e154l1 k m 0 0 y1 y2 y3 y4 y5) (by
  unfold T154l1
  repeat' first | with_reducible exact cC | with_reducible refine cI fun _ => ?_ | with_reducible refine cM ?_ | with_reducible refine cF ?_ ?_ | exact cD0 gM) h

noncomputable def T135l1 (O : Orc) (k m q0 q1 : Nat) (y1 : Nat) (y2 : List V) (y3 : Int) (y4 : Nat) (y5 : List V) : Option V := bif decide (y3 < (↑y1 : Int)) then must (inB y3 y1) (must (decide
 (y3.toNat * 1 < y2.length)) (asSl y2[y3.toNat * 1]? fun x1 x2 => must (inB y3 y1) (must (decide (y3.toNat * 1 < y2.length)) (must (true && (y4 + 1).ble 140737488355328 && ((y4 + 1) * 1).ble
 140737488355328) (asSl y2[y3.toNat * 1]? fun x3 x4 => must (decide (x4.length = x3 * 1)) (must (true && (y4 + 1 + x3).ble 140737488355328 && ((y4 + 1 + x3) * 1).ble 140737488355328) (O.L 0 135 0
 [true, true, false, true] [] m [(0, V.sl y1 y2), (3, V.ref 0), (4, V.int .i64 (IntKind.i64.wrap (y3 + 1)))] [Ob.row 5 (y4 + 1 + x3) (y5 ++ [V.int .u8 (IntKind.u8.wrap (↑x1 : Int))] ++ x4)
 false]))))))) else must (false || y5.all flatV) (some (V.tup [V.osl y4 y5]))
theorem e135l1 (k m q0 q1 : Nat) (y1 : Nat) (y2 : List V) (y3 : Int) (y4 : Nat) (y5 : List V) : runL C k 135 0 [true, true, false, true] [] (m + 1) [(0, V.sl y1 y2), (3, V.ref 0), (4, V.int .i64 y3)]
 [Ob.row 5 y4 y5 false] = T135l1 (orc C k) k m q0 q1 y1 y2 y3 y4 y5 := by kernel_rfl
theorem E135l1 (y1 : Nat) (y2 : List V) (y3 : Int) (y4 : Nat) (y5 : List V) {r : V} (h : T135l1 (orcE C) 0 0 0 0 y1 y2 y3 y4 y5 = some r) : loopE C 135 0 [true, true, false, true] [] [(0, V.sl y1 y2),
 (3, V.ref 0), (4, V.int .i64 y3)] [Ob.row 5 y4 y5 false] = some r := ofL (j := 0) (F := fun s => T135l1 (orc C s.k) s.k s.m 0 0 y1 y2 y3 y4 y5) (fs0 fun k m => e135l1 k m 0 0 y1 y2 y3 y4 y5) (by
  unfold T135l1
  repeat' first | with_reducible exact cC | with_reducible refine cM ?_ | with_reducible refine cF ?_ ?_ | with_reducible refine cL fun _ _ => ?_ | exact cD0 gM) h

noncomputable def T134l1 (O : Orc) (k m q0 q1 : Nat) (y1 : Int) (y2 : Int) (y3 : Nat) (y4 : List V) : Option V := bif decide (y2 ≥ 0) then must (decide (0 ≤ IntKind.u64.wrap (IntKind.i64.wrap (8 *
 y2)))) (must (true && (y3 + 1).ble 140737488355328 && ((y3 + 1) * 1).ble 140737488355328) (O.L 0 134 0 [true, true, false, true] [] m [(0, V.int .i64 y1), (3, V.ref 0), (4, V.int .i64
 (IntKind.i64.wrap (y2 - 1)))] [Ob.row 5 (y3 + 1) (y4 ++ [V.int .u8 (IntKind.u8.wrap (y1.fdiv (2 ^ min (IntKind.u64.wrap (IntKind.i64.wrap (8 * y2))).toNat 64)))]) false])) else some (V.tup [V.sl y3
 y4])
theorem e134l1 (k m q0 q1 : Nat) (y1 : Int) (y2 : Int) (y3 : Nat) (y4 : List V) : runL C k 134 0 [true, true, false, true] [] (m + 1) [(0, V.int .i64 y1), (3, V.ref 0), (4, V.int .i64 y2)] [Ob.row 5 y3
 y4 false] = T134l1 (orc C k) k m q0 q1 y1 y2 y3 y4 := by kernel_rfl
theorem E134l1 (y1 : Int) (y2 : Int) (y3 : Nat) (y4 : List V) {r : V} (h : T134l1 (orcE C) 0 0 0 0 y1 y2 y3 y4 = some r) : loopE C 134 0 [true, true, false, true] [] [(0, V.int .i64 y1), (3, V.ref 0),
 (4, V.int .i64 y2)] [Ob.row 5 y3 y4 false] = some r := ofL (j := 0) (F := fun s => T134l1 (orc C s.k) s.k s.m 0 0 y1 y2 y3 y4) (fs0 fun k m => e134l1 k m 0 0 y1 y2 y3 y4) (by
  unfold T134l1
  repeat' first | with_reducible exact cC | with_reducible refine cM ?_ | with_reducible refine cF ?_ ?_ | exact cD0 gM) h

noncomputable def T213 (O : Orc) (k m q0 q1 : Nat)  : Option V := some (V.agg [V.int .i64 1116352408, V.int .i64 1899447441, V.int .i64 3049323471, V.int .i64 3921009573, V.int .i64 961987163, V.int
 .i64 1508970993, V.int .i64 2453635748, V.int .i64 2870763221, V.int .i64 3624381080, V.int .i64 310598401, V.int .i64 607225278, V.int .i64 1426881987, V.int .i64 1925078388, V.int .i64 2162078206,
 V.int .i64 2614888103, V.int .i64 3248222580, V.int .i64 3835390401, V.int .i64 4022224774, V.int .i64 264347078, V.int .i64 604807628, V.int .i64 770255983, V.int .i64 1249150122, V.int .i64
 1555081692, V.int .i64 1996064986, V.int .i64 2554220882, V.int .i64 2821834349, V.int .i64 2952996808, V.int .i64 3210313671, V.int .i64 3336571891, V.int .i64 3584528711, V.int .i64 113926993, V.int
 .i64 338241895, V.int .i64 666307205, V.int .i64 773529912, V.int .i64 1294757372, V.int .i64 1396182291, V.int .i64 1695183700, V.int .i64 1986661051, V.int .i64 2177026350, V.int .i64 2456956037,
 V.int .i64 2730485921, V.int .i64 2820302411, V.int .i64 3259730800, V.int .i64 3345764771, V.int .i64 3516065817, V.int .i64 3600352804, V.int .i64 4094571909, V.int .i64 275423344, V.int .i64
 430227734, V.int .i64 506948616, V.int .i64 659060556, V.int .i64 883997877, V.int .i64 958139571, V.int .i64 1322822218, V.int .i64 1537002063, V.int .i64 1747873779, V.int .i64 1955562222, V.int
 .i64 2024104815, V.int .i64 2227730452, V.int .i64 2361852424, V.int .i64 2428436474, V.int .i64 2756734187, V.int .i64 3204031479, V.int .i64 3329325298])
theorem e213 (k m q0 q1 : Nat)  : runV C (k + 1) 213 [] = T213 (orc C k) k m q0 q1  := by kernel_rfl
theorem E213  {r : V} (h : T213 (orcE C) 0 0 0 0  = some r) : runE C 213 [] = some r := ofR (F := fun s => T213 (orc C s.k) s.k s.m 0 0 ) (fun k => e213 k k 0 0 ) (by
  unfold T213
  exact cC) h

noncomputable def T214 (O : Orc) (k m q0 q1 : Nat)  : Option V := some (V.tup [V.int .i64 1779033703, V.int .i64 3144134277, V.int .i64 1013904242, V.int .i64 2773480762, V.int .i64 1359893119, V.int
 .i64 2600822924, V.int .i64 528734635, V.int .i64 1541459225])
theorem e214 (k m q0 q1 : Nat)  : runV C (k + 1) 214 [] = T214 (orc C k) k m q0 q1  := by kernel_rfl
theorem E214  {r : V} (h : T214 (orcE C) 0 0 0 0  = some r) : runE C 214 [] = some r := ofR (F := fun s => T214 (orc C s.k) s.k s.m 0 0 ) (fun k => e214 k k 0 0 ) (by
  unfold T214
  exact cC) h

noncomputable def T215 (O : Orc) (k m q0 q1 : Nat) (y1 : Nat) (y2 : List V) : Option V := must (decide (y2.length = y1 * 1)) (must (true && (0 + y1).ble 140737488355328 && ((0 + y1) * 1).ble
 140737488355328) (must (true && (0 + y1 + 1).ble 140737488355328 && ((0 + y1 + 1) * 1).ble 140737488355328) (O.L 0 215 0 [true, true, false] [] k [(0, V.sl y1 y2), (3, V.ref 0)] [Ob.row 5 (0 + y1 + 1)
 (y2 ++ [V.int .u8 128]) false])))
theorem e215 (k m q0 q1 : Nat) (y1 : Nat) (y2 : List V) : runV C (k + 1) 215 [V.sl y1 y2] = T215 (orc C k) k m q0 q1 y1 y2 := by kernel_rfl
theorem E215 (y1 : Nat) (y2 : List V) {r : V} (h : T215 (orcE C) 0 0 0 0 y1 y2 = some r) : runE C 215 [V.sl y1 y2] = some r := ofR (F := fun s => T215 (orc C s.k) s.k s.m 0 0 y1 y2) (fun k => e215 k k
 0 0 y1 y2) (by
  unfold T215
  repeat' first | with_reducible exact cC | with_reducible refine cM ?_ | exact cD0 gK) h

noncomputable def T187l1 (O : Orc) (k m q0 q1 : Nat) (y1 : Nat) (y2 : List V) (y3 : Int) (y4 : List V) (y5 : List V) : Option V := bif decide (y3 < (↑y1 : Int)) then O.L 0 187 2 [true, true, true,
 true, false, true, false, true, false, false, true, false, true] [m] k [(3, V.ptr 0 0), (4, V.ptr 1 0), (5, V.sl y1 y2), (6, V.int .i64 y3), (7, V.ptr 2 0), (8, V.int .i64 0)] [Ob.box 219 y4 false,
 Ob.box 221 y5 false, Ob.box 219 [V.int .i64 0, V.int .i64 0, V.int .i64 0, V.int .i64 0, V.int .i64 0, V.int .i64 0, V.int .i64 0, V.int .i64 0, V.int .i64 0, V.int .i64 0, V.int .i64 0, V.int .i64 0,
 V.int .i64 0, V.int .i64 0, V.int .i64 0, V.int .i64 0, V.int .i64 0, V.int .i64 0, V.int .i64 0, V.int .i64 0, V.int .i64 0, V.int .i64 0, V.int .i64 0, V.int .i64 0, V.int .i64 0, V.int .i64 0,
 V.int .i64 0, V.int .i64 0, V.int .i64 0, V.int .i64 0, V.int .i64 0, V.int .i64 0, V.int .i64 0, V.int .i64 0, V.int .i64 0, V.int .i64 0, V.int .i64 0, V.int .i64 0, V.int .i64 0, V.int .i64 0,
 V.int .i64 0, V.int .i64 0, V.int .i64 0, V.int .i64 0, V.int .i64 0, V.int .i64 0, V.int .i64 0, V.int .i64 0, V.int .i64 0, V.int .i64 0, V.int .i64 0, V.int .i64 0, V.int .i64 0, V.int .i64 0,
 V.int .i64 0, V.int .i64 0, V.int .i64 0, V.int .i64 0, V.int .i64 0, V.int .i64 0, V.int .i64 0, V.int .i64 0, V.int .i64 0, V.int .i64 0] false] else O.L 0 187 10 [true, true, true, true, true,
 true, false, true] [] k [(4, V.ptr 0 0), (17, V.ref 1), (18, V.int .i64 0)] [Ob.box 221 y5 false, Ob.row 5 0 [] false]
theorem e187l1 (k m q0 q1 : Nat) (y1 : Nat) (y2 : List V) (y3 : Int) (y4 : List V) (y5 : List V) : runL C k 187 0 [true, true, true, true, false, true] [] (m + 1) [(3, V.ptr 0 0), (4, V.ptr 1 0), (5,
 V.sl y1 y2), (6, V.int .i64 y3)] [Ob.box 219 y4 false, Ob.box 221 y5 false] = T187l1 (orc C k) k m q0 q1 y1 y2 y3 y4 y5 := by kernel_rfl
theorem E187l1 (y1 : Nat) (y2 : List V) (y3 : Int) (y4 : List V) (y5 : List V) {r : V} (h : T187l1 (orcE C) 0 0 0 0 y1 y2 y3 y4 y5 = some r) : loopE C 187 0 [true, true, true, true, false, true] []
 [(3, V.ptr 0 0), (4, V.ptr 1 0), (5, V.sl y1 y2), (6, V.int .i64 y3)] [Ob.box 219 y4 false, Ob.box 221 y5 false] = some r := ofL (j := 0) (F := fun s => T187l1 (orc C s.k) s.k s.m 0 0 y1 y2 y3 y4 y5)
 (fs0 fun k m => e187l1 k m 0 0 y1 y2 y3 y4 y5) (by
  unfold T187l1
  repeat' first | with_reducible exact cC | with_reducible refine cF ?_ ?_ | exact cD0 gK | exact cD1 gK gM) h

noncomputable def T193 (O : Orc) (k m q0 q1 : Nat) (y1 : Nat) (y2 : List V) : Option V := O.L 0 193 0 [true, false, true] [] k [(0, V.sl y1 y2), (1, V.fn 178 []), (7, V.int .i64 (↑y1 : Int)), (8, V.int
 .i64 0)] []
theorem e193 (k m q0 q1 : Nat) (y1 : Nat) (y2 : List V) : runV C (k + 1) 193 [V.sl y1 y2, V.fn 178 []] = T193 (orc C k) k m q0 q1 y1 y2 := by kernel_rfl
theorem E193 (y1 : Nat) (y2 : List V) {r : V} (h : T193 (orcE C) 0 0 0 0 y1 y2 = some r) : runE C 193 [V.sl y1 y2, V.fn 178 []] = some r := ofR (F := fun s => T193 (orc C s.k) s.k s.m 0 0 y1 y2) (fun k
 => e193 k k 0 0 y1 y2) (by
  unfold T193
  repeat' first | with_reducible exact cC | exact cD0 gK) h

noncomputable def T173l1 (O : Orc) (k m q0 q1 : Nat) (y1 : Int) (y2 : Nat) (y3 : List V) (y4 : Int) (y5 : Int) : Option V := bif decide (y5 < y4) then must (inB y5 y2) (PI.asInt .u8 y3[y5.toNat * 1]?
 fun x1 => need (O.R 0 209 [V.int .u8 x1]) fun x2 => asTup (some x2) fun x3 => PI.asInt .i64 x3[0]? fun x4 => bif x1 != 0 then some (V.tup [V.int .i64 (IntKind.i64.wrap (y1 + x4))]) else O.L 0 173 0
 [true, true, false, true] [] m [(3, V.int .i64 (IntKind.i64.wrap (y1 + x4))), (6, V.sl y2 y3), (7, V.int .i64 y4), (8, V.int .i64 (IntKind.i64.wrap (y5 + 1)))] []) else some (V.tup [V.int .i64 y1])
theorem e173l1 (k m q0 q1 : Nat) (y1 : Int) (y2 : Nat) (y3 : List V) (y4 : Int) (y5 : Int) : runL C k 173 0 [true, true, false, true] [] (m + 1) [(3, V.int .i64 y1), (6, V.sl y2 y3), (7, V.int .i64
 y4), (8, V.int .i64 y5)] [] = T173l1 (orc C k) k m q0 q1 y1 y2 y3 y4 y5 := by kernel_rfl
theorem E173l1 (y1 : Int) (y2 : Nat) (y3 : List V) (y4 : Int) (y5 : Int) {r : V} (h : T173l1 (orcE C) 0 0 0 0 y1 y2 y3 y4 y5 = some r) : loopE C 173 0 [true, true, false, true] [] [(3, V.int .i64 y1),
 (6, V.sl y2 y3), (7, V.int .i64 y4), (8, V.int .i64 y5)] [] = some r := ofL (j := 0) (F := fun s => T173l1 (orc C s.k) s.k s.m 0 0 y1 y2 y3 y4 y5) (fs0 fun k m => e173l1 k m 0 0 y1 y2 y3 y4 y5) (by
  unfold T173l1
  repeat' first | with_reducible exact cC | with_reducible refine cN cR fun _ => ?_ | with_reducible refine cT fun _ => ?_ | with_reducible refine cI fun _ => ?_ | with_reducible refine cM ?_ | with_reducible refine cF ?_ ?_ | with_reducible refine cN cC fun _ => ?_ | with_reducible exact cR | exact cD0 gM) h

noncomputable def T180 (O : Orc) (k m q0 q1 : Nat) (y1 : Nat) (y2 : List V) : Option V := bif decide ((↑y1 : Int) > 60) then some (V.tup [V.sl 0 [], V.bool false]) else O.L 0 180 0 [true, true, true,
 false, true] [] k [(4, V.ref 0), (11, V.sl y1 y2), (12, V.int .i64 (↑y1 : Int)), (13, V.int .i64 0)] [Ob.row 5 0 [] false]
theorem e180 (k m q0 q1 : Nat) (y1 : Nat) (y2 : List V) : runV C (k + 1) 180 [V.sl y1 y2] = T180 (orc C k) k m q0 q1 y1 y2 := by kernel_rfl
theorem E180 (y1 : Nat) (y2 : List V) {r : V} (h : T180 (orcE C) 0 0 0 0 y1 y2 = some r) : runE C 180 [V.sl y1 y2] = some r := ofR (F := fun s => T180 (orc C s.k) s.k s.m 0 0 y1 y2) (fun k => e180 k k
 0 0 y1 y2) (by
  unfold T180
  repeat' first | with_reducible exact cC | with_reducible refine cF ?_ ?_ | exact cD0 gK) h

noncomputable def T120l1 (O : Orc) (k m q0 q1 : Nat) (y1 : Int) (y2 : Int) (y3 : Nat) (y4 : List V) : Option V := bif decide (y2 ≥ 0) then must (inB y2 y3) (must ([V.int .u8 (IntKind.u8.wrap
 y1)].length.beq 1 && (y2.toNat * 1 + [V.int .u8 (IntKind.u8.wrap y1)].length).ble y4.length) (O.L 0 120 0 [true, true, false, true] [] m [(0, V.int .i64 (y1.fdiv 256)), (3, V.ref 0), (4, V.int .i64
 (IntKind.i64.wrap (y2 - 1)))] [Ob.row 5 y3 (splice y4 (y2.toNat * 1) [V.int .u8 (IntKind.u8.wrap y1)]) false])) else some (V.tup [V.sl y3 y4])
theorem e120l1 (k m q0 q1 : Nat) (y1 : Int) (y2 : Int) (y3 : Nat) (y4 : List V) : runL C k 120 0 [true, true, false, true] [] (m + 1) [(0, V.int .i64 y1), (3, V.ref 0), (4, V.int .i64 y2)] [Ob.row 5 y3
 y4 false] = T120l1 (orc C k) k m q0 q1 y1 y2 y3 y4 := by kernel_rfl
theorem E120l1 (y1 : Int) (y2 : Int) (y3 : Nat) (y4 : List V) {r : V} (h : T120l1 (orcE C) 0 0 0 0 y1 y2 y3 y4 = some r) : loopE C 120 0 [true, true, false, true] [] [(0, V.int .i64 y1), (3, V.ref 0),
 (4, V.int .i64 y2)] [Ob.row 5 y3 y4 false] = some r := ofL (j := 0) (F := fun s => T120l1 (orc C s.k) s.k s.m 0 0 y1 y2 y3 y4) (fs0 fun k m => e120l1 k m 0 0 y1 y2 y3 y4) (by
  unfold T120l1
  repeat' first | with_reducible exact cC | with_reducible refine cM ?_ | with_reducible refine cF ?_ ?_ | exact cD0 gM) h

noncomputable def T117l1 (O : Orc) (k m q0 q1 : Nat) (y1 : Nat) (y2 : List V) (y3 : Int) (y4 : Int) (y5 : Nat) (y6 : List V) : Option V := bif decide (y4 < y3) then must (inB y4 y1) (must (decide
 (y4.toNat * 1 < y2.length)) (asSl y2[y4.toNat * 1]? fun x1 x2 => must (decide (x2.length = x1 * 1)) (must (true && (y5 + x1).ble 140737488355328 && ((y5 + x1) * 1).ble 140737488355328) (O.L 0 117 0
 [true, true, false, true] [] m [(3, V.ref 0), (13, V.sl y1 y2), (14, V.int .i64 y3), (15, V.int .i64 (IntKind.i64.wrap (y4 + 1)))] [Ob.row 5 (y5 + x1) (y6 ++ x2) false])))) else must (true && (y5 +
 1).ble 140737488355328 && ((y5 + 1) * 1).ble 140737488355328) (O.L 0 117 2 [true, true, true, true, true, false] [] k [(3, V.ref 0), (6, V.int .u64 (IntKind.u64.wrap (IntKind.u64.wrap (↑y5 : Int) *
 8)))] [Ob.row 5 (y5 + 1) (y6 ++ [V.int .u8 128]) false])
theorem e117l1 (k m q0 q1 : Nat) (y1 : Nat) (y2 : List V) (y3 : Int) (y4 : Int) (y5 : Nat) (y6 : List V) : runL C k 117 0 [true, true, false, true] [] (m + 1) [(3, V.ref 0), (13, V.sl y1 y2), (14,
 V.int .i64 y3), (15, V.int .i64 y4)] [Ob.row 5 y5 y6 false] = T117l1 (orc C k) k m q0 q1 y1 y2 y3 y4 y5 y6 := by kernel_rfl
theorem E117l1 (y1 : Nat) (y2 : List V) (y3 : Int) (y4 : Int) (y5 : Nat) (y6 : List V) {r : V} (h : T117l1 (orcE C) 0 0 0 0 y1 y2 y3 y4 y5 y6 = some r) : loopE C 117 0 [true, true, false, true] [] [(3,
 V.ref 0), (13, V.sl y1 y2), (14, V.int .i64 y3), (15, V.int .i64 y4)] [Ob.row 5 y5 y6 false] = some r := ofL (j := 0) (F := fun s => T117l1 (orc C s.k) s.k s.m 0 0 y1 y2 y3 y4 y5 y6) (fs0 fun k m =>
 e117l1 k m 0 0 y1 y2 y3 y4 y5 y6) (by
  unfold T117l1
  repeat' first | with_reducible exact cC | with_reducible refine cM ?_ | with_reducible refine cF ?_ ?_ | with_reducible refine cL fun _ _ => ?_ | exact cD0 gK | exact cD0 gM) h

noncomputable def T110 (O : Orc) (k m q0 q1 : Nat) (y1 : Nat) (y2 : List V) (y3 : Int) (y4 : Int) (y5 : Int) (y6 : Nat) (y7 : List V) (y8 : Int) (y9 : Nat) (y10 : List V) : Option V := need (O.R 0 53
 [V.agg [V.sl y1 y2, V.int .i64 y3, V.int .i64 y4, V.int .i64 y5, V.sl y6 y7, V.int .i64 y8]]) fun x1 => asTup (some x1) fun x2 => asSl x2[0]? fun x3 x4 => need (O.R 0 78 [V.sl x3 x4, V.sl y9 y10]) fun
 x5 => asTup (some x5) fun x6 => PI.asBool x6[0]? fun x7 => some (V.tup [V.bool x7])
theorem e110 (k m q0 q1 : Nat) (y1 : Nat) (y2 : List V) (y3 : Int) (y4 : Int) (y5 : Int) (y6 : Nat) (y7 : List V) (y8 : Int) (y9 : Nat) (y10 : List V) : runV C (k + 1) 110 [V.agg [V.sl y1 y2, V.int
 .i64 y3, V.int .i64 y4, V.int .i64 y5, V.sl y6 y7, V.int .i64 y8], V.pin [V.sl y9 y10] 0] = T110 (orc C k) k m q0 q1 y1 y2 y3 y4 y5 y6 y7 y8 y9 y10 := by kernel_rfl
theorem E110 (y1 : Nat) (y2 : List V) (y3 : Int) (y4 : Int) (y5 : Int) (y6 : Nat) (y7 : List V) (y8 : Int) (y9 : Nat) (y10 : List V) {r : V} (h : T110 (orcE C) 0 0 0 0 y1 y2 y3 y4 y5 y6 y7 y8 y9 y10 =
 some r) : runE C 110 [V.agg [V.sl y1 y2, V.int .i64 y3, V.int .i64 y4, V.int .i64 y5, V.sl y6 y7, V.int .i64 y8], V.pin [V.sl y9 y10] 0] = some r := ofR (F := fun s => T110 (orc C s.k) s.k s.m 0 0 y1
 y2 y3 y4 y5 y6 y7 y8 y9 y10) (fun k => e110 k k 0 0 y1 y2 y3 y4 y5 y6 y7 y8 y9 y10) (by
  unfold T110
  repeat' first | with_reducible exact cC | with_reducible refine cN cR fun _ => ?_ | with_reducible refine cT fun _ => ?_ | with_reducible refine cB fun _ => ?_ | with_reducible refine cL fun _ _ => ?_ | with_reducible refine cN cC fun _ => ?_ | with_reducible exact cR) h

noncomputable def T174l2 (O : Orc) (k m q0 q1 : Nat) (y1 : Nat) (y2 : List V) (y3 : Nat) (y4 : List V) (y5 : Int) (y6 : Int) (y7 : Int) (y8 : Nat) (y9 : List V) (y10 : Int) (y11 : Int) (y12 : Int) :
 Option V := bif decide (y12 < y11) then must (inB y12 y1) (asSl y2[y12.toNat * 6]? fun x1 x2 => PI.asInt .i64 y2[y12.toNat * 6 + 1]? fun x3 => PI.asInt .i64 y2[y12.toNat * 6 + 1 + 1]? fun x4 =>
 PI.asInt .i64 y2[y12.toNat * 6 + 1 + 1 + 1]? fun x5 => asSl y2[y12.toNat * 6 + 1 + 1 + 1 + 1]? fun x6 x7 => PI.asInt .i64 y2[y12.toNat * 6 + 1 + 1 + 1 + 1 + 1]? fun x8 => need (O.R 0 175 [V.agg [V.sl
 x1 x2, V.int .i64 x3, V.int .i64 x4, V.int .i64 x5, V.sl x6 x7, V.int .i64 x8], V.pin [V.sl y3 y4, V.int .i64 y5, V.int .i64 y6, V.int .i64 y7, V.sl y8 y9, V.int .i64 y10] 0]) fun x9 => asTup (some
 x9) fun x10 => PI.asBool x10[0]? fun x11 => bif x11 then some (V.tup [V.int .i64 y12]) else O.L 0 174 0 [true, false, true] [] m [(0, V.sl y1 y2), (1, V.fn 175 [V.pin [V.sl y3 y4, V.int .i64 y5, V.int
 .i64 y6, V.int .i64 y7, V.sl y8 y9, V.int .i64 y10] 0]), (7, V.int .i64 y11), (8, V.int .i64 (IntKind.i64.wrap (y12 + 1)))] []) else some (V.tup [V.int .i64 (-1)])
theorem e174l2 (k m q0 q1 : Nat) (y1 : Nat) (y2 : List V) (y3 : Nat) (y4 : List V) (y5 : Int) (y6 : Int) (y7 : Int) (y8 : Nat) (y9 : List V) (y10 : Int) (y11 : Int) (y12 : Int) : runL C k 174 0 [true,
 false, true] [] (m + 1) [(0, V.sl y1 y2), (1, V.fn 175 [V.pin [V.sl y3 y4, V.int .i64 y5, V.int .i64 y6, V.int .i64 y7, V.sl y8 y9, V.int .i64 y10] 0]), (7, V.int .i64 y11), (8, V.int .i64 y12)] [] =
 T174l2 (orc C k) k m q0 q1 y1 y2 y3 y4 y5 y6 y7 y8 y9 y10 y11 y12 := by kernel_rfl
theorem E174l2 (y1 : Nat) (y2 : List V) (y3 : Nat) (y4 : List V) (y5 : Int) (y6 : Int) (y7 : Int) (y8 : Nat) (y9 : List V) (y10 : Int) (y11 : Int) (y12 : Int) {r : V} (h : T174l2 (orcE C) 0 0 0 0 y1 y2
 y3 y4 y5 y6 y7 y8 y9 y10 y11 y12 = some r) : loopE C 174 0 [true, false, true] [] [(0, V.sl y1 y2), (1, V.fn 175 [V.pin [V.sl y3 y4, V.int .i64 y5, V.int .i64 y6, V.int .i64 y7, V.sl y8 y9, V.int .i64
 y10] 0]), (7, V.int .i64 y11), (8, V.int .i64 y12)] [] = some r := ofL (j := 0) (F := fun s => T174l2 (orc C s.k) s.k s.m 0 0 y1 y2 y3 y4 y5 y6 y7 y8 y9 y10 y11 y12) (fs0 fun k m => e174l2 k m 0 0 y1
 y2 y3 y4 y5 y6 y7 y8 y9 y10 y11 y12) (by
  unfold T174l2
  repeat' first | with_reducible exact cC | with_reducible refine cN cR fun _ => ?_ | with_reducible refine cT fun _ => ?_ | with_reducible refine cI fun _ => ?_ | with_reducible refine cM ?_ | with_reducible refine cF ?_ ?_ | with_reducible refine cB fun _ => ?_ | with_reducible refine cL fun _ _ => ?_ | with_reducible refine cN cC fun _ => ?_ | with_reducible exact cR | exact cD0 gM) h

noncomputable def T172l1 (O : Orc) (k m q0 q1 : Nat) (y1 : Int) (y2 : Int) (y3 : Nat) (y4 : List V) : Option V := bif decide (y1 < y2) then must (inB y2 y3) (must (inB y1 y3) (both (PI.asInt .i64
 y4[y2.toNat * 1]? fun x1 => PI.asInt .i64 y4[y1.toNat * 1]? fun x2 => must (inB y1 y3) (must ([V.int .i64 x1].length.beq 1 && (y1.toNat * 1 + [V.int .i64 x1].length).ble y4.length) (must (inB y2 y3)
 (must ([V.int .i64 x2].length.beq 1 && (y2.toNat * 1 + [V.int .i64 x2].length).ble (splice y4 (y1.toNat * 1) [V.int .i64 x1]).length) (O.X 0 172 [0] [Ob.row 2 0 [] false] 0 [true] [] m [(0, V.ref 0),
 (2, V.int .i64 (IntKind.i64.wrap (y1 + 1))), (3, V.int .i64 (IntKind.i64.wrap (y2 - 1)))] [Ob.row 2 y3 (splice (splice y4 (y1.toNat * 1) [V.int .i64 x1]) (y2.toNat * 1) [V.int .i64 x2]) false])))))
 (PI.asInt .i64 y4[y1.toNat * 1]? fun x3 => PI.asInt .i64 y4[y2.toNat * 1]? fun x4 => must (inB y1 y3) (must ([V.int .i64 x4].length.beq 1 && (y1.toNat * 1 + [V.int .i64 x4].length).ble y4.length)
 (must (inB y2 y3) (must ([V.int .i64 x3].length.beq 1 && (y2.toNat * 1 + [V.int .i64 x3].length).ble (splice y4 (y1.toNat * 1) [V.int .i64 x4]).length) (O.X 0 172 [0] [Ob.row 2 0 [] false] 0 [true] []
 m [(0, V.ref 0), (2, V.int .i64 (IntKind.i64.wrap (y1 + 1))), (3, V.int .i64 (IntKind.i64.wrap (y2 - 1)))] [Ob.row 2 y3 (splice (splice y4 (y1.toNat * 1) [V.int .i64 x4]) (y2.toNat * 1) [V.int .i64
 x3]) false]))))))) else must (false || y4.all flatV) (some (V.tup [V.osl y3 y4]))
theorem e172l1 (k m q0 q1 : Nat) (y1 : Int) (y2 : Int) (y3 : Nat) (y4 : List V) : runLW C k 172 [0] [Ob.row 2 0 [] false] 0 [true] [] (m + 1) [(0, V.ref 0), (2, V.int .i64 y1), (3, V.int .i64 y2)]
 [Ob.row 2 y3 y4 false] = T172l1 (orc C k) k m q0 q1 y1 y2 y3 y4 := by kernel_rfl
theorem E172l1 (y1 : Int) (y2 : Int) (y3 : Nat) (y4 : List V) {r : V} (h : T172l1 (orcE C) 0 0 0 0 y1 y2 y3 y4 = some r) : loopWE C 172 [0] [Ob.row 2 0 [] false] 0 [true] [] [(0, V.ref 0), (2, V.int
 .i64 y1), (3, V.int .i64 y2)] [Ob.row 2 y3 y4 false] = some r := ofX (j := 0) (F := fun s => T172l1 (orc C s.k) s.k s.m 0 0 y1 y2 y3 y4) (fs0 fun k m => e172l1 k m 0 0 y1 y2 y3 y4) (by
  unfold T172l1
  repeat' first | with_reducible exact cC | with_reducible refine cI fun _ => ?_ | with_reducible refine cM ?_ | with_reducible refine cF ?_ ?_ | with_reducible refine cW ?_ ?_ | exact cX0 gM) h

noncomputable def T105s2 (O : Orc) (k m q0 q1 : Nat) (y1 : Int) (y2 : Nat) (y3 : List V) (y4 : Int) (y5 : Nat) (y6 : List V) (y7 : Int) (y8 : Int) (y9 : Int) (y10 : Nat) (y11 : List V) (y12 : Int) :
 Option V := must (inB y1 y2) (PI.asInt .i64 y3[y1.toNat * 6 + 1]? fun x1 => some (V.tup [V.bool (decide (x1 > IntKind.i64.wrap (y7 - y4)))]))
theorem e105s2 (k m q0 q1 : Nat) (y1 : Int) (y2 : Nat) (y3 : List V) (y4 : Int) (y5 : Nat) (y6 : List V) (y7 : Int) (y8 : Int) (y9 : Int) (y10 : Nat) (y11 : List V) (y12 : Int) : runV C (k + 1) 105
 [V.int .i64 y1, V.pin [V.sl y2 y3, V.int .i64 y4] 0, V.pin [V.sl y5 y6, V.int .i64 y7, V.int .i64 y8, V.int .i64 y9, V.sl y10 y11, V.int .i64 y12] 0] = T105s2 (orc C k) k m q0 q1 y1 y2 y3 y4 y5 y6 y7
 y8 y9 y10 y11 y12 := by kernel_rfl
theorem E105s2 (y1 : Int) (y2 : Nat) (y3 : List V) (y4 : Int) (y5 : Nat) (y6 : List V) (y7 : Int) (y8 : Int) (y9 : Int) (y10 : Nat) (y11 : List V) (y12 : Int) {r : V} (h : T105s2 (orcE C) 0 0 0 0 y1 y2
 y3 y4 y5 y6 y7 y8 y9 y10 y11 y12 = some r) : runE C 105 [V.int .i64 y1, V.pin [V.sl y2 y3, V.int .i64 y4] 0, V.pin [V.sl y5 y6, V.int .i64 y7, V.int .i64 y8, V.int .i64 y9, V.sl y10 y11, V.int .i64
 y12] 0] = some r := ofR (F := fun s => T105s2 (orc C s.k) s.k s.m 0 0 y1 y2 y3 y4 y5 y6 y7 y8 y9 y10 y11 y12) (fun k => e105s2 k k 0 0 y1 y2 y3 y4 y5 y6 y7 y8 y9 y10 y11 y12) (by
  unfold T105s2
  repeat' first | with_reducible exact cC | with_reducible refine cI fun _ => ?_ | with_reducible refine cM ?_) h

noncomputable def T177l1 (O : Orc) (k m q0 q1 : Nat) (y1 : Nat) (y2 : List V) (y3 : Int) (y4 : Int) (y5 : Int) : Option V := bif decide (y5 < y4) then must (inB y5 y1) (PI.asInt .i64 y2[y5.toNat * 1]?
 fun x1 => bif y3 == x1 then some (V.tup [V.int .i64 y5]) else O.L 0 177 0 [true, false, true] [] m [(0, V.sl y1 y2), (1, V.int .i64 y3), (7, V.int .i64 y4), (8, V.int .i64 (IntKind.i64.wrap (y5 +
 1)))] []) else some (V.tup [V.int .i64 (-1)])
theorem e177l1 (k m q0 q1 : Nat) (y1 : Nat) (y2 : List V) (y3 : Int) (y4 : Int) (y5 : Int) : runL C k 177 0 [true, false, true] [] (m + 1) [(0, V.sl y1 y2), (1, V.int .i64 y3), (7, V.int .i64 y4), (8,
 V.int .i64 y5)] [] = T177l1 (orc C k) k m q0 q1 y1 y2 y3 y4 y5 := by kernel_rfl
theorem E177l1 (y1 : Nat) (y2 : List V) (y3 : Int) (y4 : Int) (y5 : Int) {r : V} (h : T177l1 (orcE C) 0 0 0 0 y1 y2 y3 y4 y5 = some r) : loopE C 177 0 [true, false, true] [] [(0, V.sl y1 y2), (1, V.int
 .i64 y3), (7, V.int .i64 y4), (8, V.int .i64 y5)] [] = some r := ofL (j := 0) (F := fun s => T177l1 (orc C s.k) s.k s.m 0 0 y1 y2 y3 y4 y5) (fs0 fun k m => e177l1 k m 0 0 y1 y2 y3 y4 y5) (by
  unfold T177l1
  repeat' first | with_reducible exact cC | with_reducible refine cI fun _ => ?_ | with_reducible refine cM ?_ | with_reducible refine cF ?_ ?_ | exact cD0 gM) h

noncomputable def T165 (O : Orc) (k m q0 q1 : Nat) (y1 : Nat) (y2 : List V) : Option V := bif y1.beq (OfNat.ofNat 0) then both (some (V.tup [V.osl 0 []])) (must (decide (y2.length = y1 * 1)) (must
 (true && (0 + y1).ble 140737488355328 && ((0 + y1) * 1).ble 140737488355328) (must (false || y2.all flatV) (some (V.tup [V.osl (0 + y1) y2]))))) else must (decide (y2.length = y1 * 1)) (must (true &&
 (0 + y1).ble 140737488355328 && ((0 + y1) * 1).ble 140737488355328) (must (false || y2.all flatV) (some (V.tup [V.osl (0 + y1) y2]))))
theorem e165 (k m q0 q1 : Nat) (y1 : Nat) (y2 : List V) : runV C (k + 1) 165 [V.sl y1 y2] = T165 (orc C k) k m q0 q1 y1 y2 := by kernel_rfl
theorem E165 (y1 : Nat) (y2 : List V) {r : V} (h : T165 (orcE C) 0 0 0 0 y1 y2 = some r) : runE C 165 [V.sl y1 y2] = some r := ofR (F := fun s => T165 (orc C s.k) s.k s.m 0 0 y1 y2) (fun k => e165 k k
 0 0 y1 y2) (by
  unfold T165
  repeat' first | with_reducible exact cC | with_reducible refine cM ?_ | with_reducible refine cF ?_ ?_ | with_reducible refine cW ?_ ?_) h

noncomputable def T205l2 (O : Orc) (k m q0 q1 : Nat) (y1 : Nat) (y2 : List V) (y3 : Int) (y4 : Int) (y5 : Int) : Option V := bif decide (y5 ≥ 0) then must (inB y4 y1) (PI.asInt .u8 y2[y4.toNat * 1]?
 fun x1 => must (decide (0 ≤ IntKind.u64.wrap y5)) (bif PI.bits IntKind.u8 (fun x1 x2 => x1 &&& x2) (x1.fdiv (2 ^ min (IntKind.u64.wrap y5).toNat 8)) 1 == 1 then some (V.tup [V.int .i64 y3]) else O.L 0
 205 2 [true, true, false, true, false, true, false, false, true] [q0] m [(0, V.sl y1 y2), (3, V.int .i64 (IntKind.i64.wrap (y3 + 1))), (4, V.int .i64 y4), (5, V.int .i64 (IntKind.i64.wrap (y5 - 1)))]
 [])) else O.L 0 205 0 [true, true, false, true] [] q0 [(0, V.sl y1 y2), (3, V.int .i64 y3), (4, V.int .i64 (IntKind.i64.wrap (y4 + 1)))] []
theorem e205l2 (k m q0 q1 : Nat) (y1 : Nat) (y2 : List V) (y3 : Int) (y4 : Int) (y5 : Int) : runL C k 205 2 [true, true, false, true, false, true, false, false, true] [q0] (m + 1) [(0, V.sl y1 y2), (3,
 V.int .i64 y3), (4, V.int .i64 y4), (5, V.int .i64 y5)] [] = T205l2 (orc C k) k m q0 q1 y1 y2 y3 y4 y5 := by kernel_rfl
theorem E205l2 (y1 : Nat) (y2 : List V) (y3 : Int) (y4 : Int) (y5 : Int) {r : V} (h : T205l2 (orcE C) 0 0 0 0 y1 y2 y3 y4 y5 = some r) : loopE C 205 2 [true, true, false, true, false, true, false,
 false, true] [0] [(0, V.sl y1 y2), (3, V.int .i64 y3), (4, V.int .i64 y4), (5, V.int .i64 y5)] [] = some r := ofL (j := 0) (F := fun s => T205l2 (orc C s.k) s.k s.m (s.fs.getD 0 0) 0 y1 y2 y3 y4 y5)
 (fs1 fun k m q0 => e205l2 k m q0 0 y1 y2 y3 y4 y5) (by
  unfold T205l2
  repeat' first | with_reducible exact cC | with_reducible refine cI fun _ => ?_ | with_reducible refine cM ?_ | with_reducible refine cF ?_ ?_ | exact cD0 (gF (i := 0) (by decide)) | exact cD1 gM (gF (i := 0) (by decide))) h

noncomputable def T215l1 (O : Orc) (k m q0 q1 : Nat) (y1 : Nat) (y2 : List V) (y3 : Nat) (y4 : List V) : Option V := bif (↑y3 : Int).tmod 64 != 56 then must (true && (y3 + 1).ble 140737488355328 &&
 ((y3 + 1) * 1).ble 140737488355328) (O.L 0 215 0 [true, true, false] [] m [(0, V.sl y1 y2), (3, V.ref 0)] [Ob.row 5 (y3 + 1) (y4 ++ [V.int .u8 0]) false]) else O.L 0 215 2 [true, true, true, true,
 false, true] [] k [(3, V.ref 0), (4, V.int .i64 (IntKind.i64.wrap ((↑y1 : Int) * 8))), (5, V.int .i64 7)] [Ob.row 5 y3 y4 false]
theorem e215l1 (k m q0 q1 : Nat) (y1 : Nat) (y2 : List V) (y3 : Nat) (y4 : List V) : runL C k 215 0 [true, true, false] [] (m + 1) [(0, V.sl y1 y2), (3, V.ref 0)] [Ob.row 5 y3 y4 false] = T215l1 (orc C
 k) k m q0 q1 y1 y2 y3 y4 := by kernel_rfl
theorem E215l1 (y1 : Nat) (y2 : List V) (y3 : Nat) (y4 : List V) {r : V} (h : T215l1 (orcE C) 0 0 0 0 y1 y2 y3 y4 = some r) : loopE C 215 0 [true, true, false] [] [(0, V.sl y1 y2), (3, V.ref 0)]
 [Ob.row 5 y3 y4 false] = some r := ofL (j := 0) (F := fun s => T215l1 (orc C s.k) s.k s.m 0 0 y1 y2 y3 y4) (fs0 fun k m => e215l1 k m 0 0 y1 y2 y3 y4) (by
  unfold T215l1
  repeat' first | with_reducible exact cC | with_reducible refine cM ?_ | with_reducible refine cF ?_ ?_ | exact cD0 gK | exact cD0 gM) h

noncomputable def T187l2 (O : Orc) (k m q0 q1 : Nat) (y1 : Nat) (y2 : List V) (y3 : Int) (y4 : Int) (y5 : List V) (y6 : List V) (y7 : List V) : Option V := bif decide (y4 < 16) then must (decide (0 ≤
 IntKind.i64.wrap (IntKind.i64.wrap (y3 + IntKind.i64.wrap (4 * y4)) + 4)) && decide (IntKind.i64.wrap (IntKind.i64.wrap (y3 + IntKind.i64.wrap (4 * y4)) + 4) ≤ (↑y1 : Int))) (must (decide (0 ≤
 IntKind.i64.wrap (y3 + IntKind.i64.wrap (4 * y4))) && decide (IntKind.i64.wrap (y3 + IntKind.i64.wrap (4 * y4)) ≤ (↑(IntKind.i64.wrap (IntKind.i64.wrap (y3 + IntKind.i64.wrap (4 * y4)) + 4)).toNat :
 Int))) (need (O.R 0 216 [V.sl ((IntKind.i64.wrap (IntKind.i64.wrap (y3 + IntKind.i64.wrap (4 * y4)) + 4)).toNat - (IntKind.i64.wrap (y3 + IntKind.i64.wrap (4 * y4))).toNat) (List.take
 (((IntKind.i64.wrap (IntKind.i64.wrap (y3 + IntKind.i64.wrap (4 * y4)) + 4)).toNat - (IntKind.i64.wrap (y3 + IntKind.i64.wrap (4 * y4))).toNat) * 1) (List.drop ((IntKind.i64.wrap (y3 +
 IntKind.i64.wrap (4 * y4))).toNat * 1) y2))]) fun x1 => asTup (some x1) fun x2 => PI.asInt .i64 x2[0]? fun x3 => must (inB y4 64) (must ((V.int .i64 x3).solid && true && (0 + y4.toNat * 1 + 1).ble
 y7.length && flatB C 219 [V.int .i64 x3]) (O.L 0 187 2 [true, true, true, true, false, true, false, true, false, false, true, false, true] [q0] m [(3, V.ptr 0 0), (4, V.ptr 1 0), (5, V.sl y1 y2), (6,
 V.int .i64 y3), (7, V.ptr 2 0), (8, V.int .i64 (IntKind.i64.wrap (y4 + 1)))] [Ob.box 219 y5 false, Ob.box 221 y6 false, Ob.box 219 (splice y7 (0 + y4.toNat * 1) [V.int .i64 x3]) false])))) else O.L 0
 187 4 [true, true, true, true, false, true, false, true, false, false, true, true, false, true] [q0] k [(3, V.ptr 0 0), (4, V.ptr 1 0), (5, V.sl y1 y2), (6, V.int .i64 y3), (7, V.ptr 2 0), (9, V.int
 .i64 16)] [Ob.box 219 y5 false, Ob.box 221 y6 false, Ob.box 219 y7 false]
theorem e187l2 (k m q0 q1 : Nat) (y1 : Nat) (y2 : List V) (y3 : Int) (y4 : Int) (y5 : List V) (y6 : List V) (y7 : List V) : runL C k 187 2 [true, true, true, true, false, true, false, true, false,
 false, true, false, true] [q0] (m + 1) [(3, V.ptr 0 0), (4, V.ptr 1 0), (5, V.sl y1 y2), (6, V.int .i64 y3), (7, V.ptr 2 0), (8, V.int .i64 y4)] [Ob.box 219 y5 false, Ob.box 221 y6 false, Ob.box 219
 y7 false] = T187l2 (orc C k) k m q0 q1 y1 y2 y3 y4 y5 y6 y7 := by kernel_rfl
theorem E187l2 (y1 : Nat) (y2 : List V) (y3 : Int) (y4 : Int) (y5 : List V) (y6 : List V) (y7 : List V) {r : V} (h : T187l2 (orcE C) 0 0 0 0 y1 y2 y3 y4 y5 y6 y7 = some r) : loopE C 187 2 [true, true,
 true, true, false, true, false, true, false, false, true, false, true] [0] [(3, V.ptr 0 0), (4, V.ptr 1 0), (5, V.sl y1 y2), (6, V.int .i64 y3), (7, V.ptr 2 0), (8, V.int .i64 y4)] [Ob.box 219 y5
 false, Ob.box 221 y6 false, Ob.box 219 y7 false] = some r := ofL (j := 0) (F := fun s => T187l2 (orc C s.k) s.k s.m (s.fs.getD 0 0) 0 y1 y2 y3 y4 y5 y6 y7) (fs1 fun k m q0 => e187l2 k m q0 0 y1 y2 y3
 y4 y5 y6 y7) (by
  unfold T187l2
  repeat' first | with_reducible exact cC | with_reducible refine cN cR fun _ => ?_ | with_reducible refine cT fun _ => ?_ | with_reducible refine cI fun _ => ?_ | with_reducible refine cM ?_ | with_reducible refine cF ?_ ?_ | with_reducible refine cN cC fun _ => ?_ | with_reducible exact cR | exact cD1 gK (gF (i := 0) (by decide)) | exact cD1 gM (gF (i := 0) (by decide))) h

noncomputable def T187l3 (O : Orc) (k m q0 q1 : Nat) (y1 : Int) (y2 : List V) (y3 : Nat) (y4 : List V) : Option V := bif decide (y1 < 8) then O.L 0 187 12 [true, true, true, true, true, true, false,
 true, false, true, false, false, true] [m] k [(4, V.ptr 0 0), (17, V.ref 1), (18, V.int .i64 y1), (19, V.int .i64 3)] [Ob.box 221 y2 false, Ob.row 5 y3 y4 false] else must (false || y4.all flatV)
 (some (V.tup [V.osl y3 y4]))
theorem e187l3 (k m q0 q1 : Nat) (y1 : Int) (y2 : List V) (y3 : Nat) (y4 : List V) : runL C k 187 10 [true, true, true, true, true, true, false, true] [] (m + 1) [(4, V.ptr 0 0), (17, V.ref 1), (18,
 V.int .i64 y1)] [Ob.box 221 y2 false, Ob.row 5 y3 y4 false] = T187l3 (orc C k) k m q0 q1 y1 y2 y3 y4 := by kernel_rfl
theorem E187l3 (y1 : Int) (y2 : List V) (y3 : Nat) (y4 : List V) {r : V} (h : T187l3 (orcE C) 0 0 0 0 y1 y2 y3 y4 = some r) : loopE C 187 10 [true, true, true, true, true, true, false, true] [] [(4,
 V.ptr 0 0), (17, V.ref 1), (18, V.int .i64 y1)] [Ob.box 221 y2 false, Ob.row 5 y3 y4 false] = some r := ofL (j := 0) (F := fun s => T187l3 (orc C s.k) s.k s.m 0 0 y1 y2 y3 y4) (fs0 fun k m => e187l3 k
 m 0 0 y1 y2 y3 y4) (by
  unfold T187l3
  repeat' first | with_reducible exact cC | with_reducible refine cM ?_ | with_reducible refine cF ?_ ?_ | exact cD1 gK gM) h

noncomputable def T193l1 (O : Orc) (k m q0 q1 : Nat) (y1 : Nat) (y2 : List V) (y3 : Int) (y4 : Int) : Option V := bif decide (y4 < y3) then must (inB y4 y1) (must (decide (y4.toNat * 1 < y2.length))
 (asSl y2[y4.toNat * 1]? fun x1 x2 => need (O.R 0 178 [V.sl x1 x2]) fun x3 => asTup (some x3) fun x4 => PI.asBool x4[0]? fun x5 => bif x5 then some (V.tup [V.int .i64 y4]) else O.L 0 193 0 [true,
 false, true] [] m [(0, V.sl y1 y2), (1, V.fn 178 []), (7, V.int .i64 y3), (8, V.int .i64 (IntKind.i64.wrap (y4 + 1)))] [])) else some (V.tup [V.int .i64 (-1)])
theorem e193l1 (k m q0 q1 : Nat) (y1 : Nat) (y2 : List V) (y3 : Int) (y4 : Int) : runL C k 193 0 [true, false, true] [] (m + 1) [(0, V.sl y1 y2), (1, V.fn 178 []), (7, V.int .i64 y3), (8, V.int .i64
 y4)] [] = T193l1 (orc C k) k m q0 q1 y1 y2 y3 y4 := by kernel_rfl
theorem E193l1 (y1 : Nat) (y2 : List V) (y3 : Int) (y4 : Int) {r : V} (h : T193l1 (orcE C) 0 0 0 0 y1 y2 y3 y4 = some r) : loopE C 193 0 [true, false, true] [] [(0, V.sl y1 y2), (1, V.fn 178 []), (7,
 V.int .i64 y3), (8, V.int .i64 y4)] [] = some r := ofL (j := 0) (F := fun s => T193l1 (orc C s.k) s.k s.m 0 0 y1 y2 y3 y4) (fs0 fun k m => e193l1 k m 0 0 y1 y2 y3 y4) (by
  unfold T193l1
  repeat' first | with_reducible exact cC | with_reducible refine cN cR fun _ => ?_ | with_reducible refine cT fun _ => ?_ | with_reducible refine cM ?_ | with_reducible refine cF ?_ ?_ | with_reducible refine cB fun _ => ?_ | with_reducible refine cL fun _ _ => ?_ | with_reducible refine cN cC fun _ => ?_ | with_reducible exact cR | exact cD0 gM) h

noncomputable def T209 (O : Orc) (k m q0 q1 : Nat) (y1 : Int) : Option V := need (O.R 0 230 [V.int .u8 y1]) fun x1 => asTup (some x1) fun x2 => PI.asInt .i64 x2[0]? fun x3 => some (V.tup [V.int .i64
 (IntKind.i64.wrap (8 - x3))])
theorem e209 (k m q0 q1 : Nat) (y1 : Int) : runV C (k + 1) 209 [V.int .u8 y1] = T209 (orc C k) k m q0 q1 y1 := by kernel_rfl
theorem E209 (y1 : Int) {r : V} (h : T209 (orcE C) 0 0 0 0 y1 = some r) : runE C 209 [V.int .u8 y1] = some r := ofR (F := fun s => T209 (orc C s.k) s.k s.m 0 0 y1) (fun k => e209 k k 0 0 y1) (by
  unfold T209
  repeat' first | with_reducible exact cC | with_reducible refine cN cR fun _ => ?_ | with_reducible refine cT fun _ => ?_ | with_reducible refine cI fun _ => ?_ | with_reducible refine cN cC fun _ => ?_ | with_reducible exact cR) h

noncomputable def T180l1 (O : Orc) (k m q0 q1 : Nat) (y1 : Nat) (y2 : List V) (y3 : Int) (y4 : Int) (y5 : Nat) (y6 : List V) : Option V := bif decide (y4 < y3) then must (inB y4 y1) (must (decide
 (y4.toNat * 1 < y2.length)) (asSl y2[y4.toNat * 1]? fun x1 x2 => bif decide ((↑x1 : Int) > 200) then some (V.tup [V.sl 0 [], V.bool false]) else asSl y2[y4.toNat * 1]? fun x3 x4 => bif decide
 (IntKind.i64.wrap (IntKind.i64.wrap ((↑y5 : Int) + 1) + (↑x3 : Int)) > 4000) then some (V.tup [V.sl 0 [], V.bool false]) else asSl y2[y4.toNat * 1]? fun x5 x6 => must (true && (y5 + 1).ble
 140737488355328 && ((y5 + 1) * 1).ble 140737488355328) (asSl y2[y4.toNat * 1]? fun x7 x8 => must (decide (x8.length = x7 * 1)) (must (true && (y5 + 1 + x7).ble 140737488355328 && ((y5 + 1 + x7) *
 1).ble 140737488355328) (O.L 0 180 0 [true, true, true, false, true] [] m [(4, V.ref 0), (11, V.sl y1 y2), (12, V.int .i64 y3), (13, V.int .i64 (IntKind.i64.wrap (y4 + 1)))] [Ob.row 5 (y5 + 1 + x7)
 (y6 ++ [V.int .u8 (IntKind.u8.wrap (↑x5 : Int))] ++ x8) false]))))) else some (V.tup [V.sl y5 y6, V.bool true])
theorem e180l1 (k m q0 q1 : Nat) (y1 : Nat) (y2 : List V) (y3 : Int) (y4 : Int) (y5 : Nat) (y6 : List V) : runL C k 180 0 [true, true, true, false, true] [] (m + 1) [(4, V.ref 0), (11, V.sl y1 y2),
 (12, V.int .i64 y3), (13, V.int .i64 y4)] [Ob.row 5 y5 y6 false] = T180l1 (orc C k) k m q0 q1 y1 y2 y3 y4 y5 y6 := by kernel_rfl
theorem E180l1 (y1 : Nat) (y2 : List V) (y3 : Int) (y4 : Int) (y5 : Nat) (y6 : List V) {r : V} (h : T180l1 (orcE C) 0 0 0 0 y1 y2 y3 y4 y5 y6 = some r) : loopE C 180 0 [true, true, true, false, true]
 [] [(4, V.ref 0), (11, V.sl y1 y2), (12, V.int .i64 y3), (13, V.int .i64 y4)] [Ob.row 5 y5 y6 false] = some r := ofL (j := 0) (F := fun s => T180l1 (orc C s.k) s.k s.m 0 0 y1 y2 y3 y4 y5 y6) (fs0 fun
 k m => e180l1 k m 0 0 y1 y2 y3 y4 y5 y6) (by
  unfold T180l1
  repeat' first | with_reducible exact cC | with_reducible refine cM ?_ | with_reducible refine cF ?_ ?_ | with_reducible refine cL fun _ _ => ?_ | exact cD0 gM) h

noncomputable def T117l2 (O : Orc) (k m q0 q1 : Nat) (y1 : Int) (y2 : Nat) (y3 : List V) : Option V := bif (↑y2 : Int).tmod 64 != 56 then must (true && (y2 + 1).ble 140737488355328 && ((y2 + 1) *
 1).ble 140737488355328) (O.L 0 117 2 [true, true, true, true, true, false] [] m [(3, V.ref 0), (6, V.int .u64 y1)] [Ob.row 5 (y2 + 1) (y3 ++ [V.int .u8 0]) false]) else O.L 0 117 4 [true, true, true,
 true, true, true, false, true] [] k [(3, V.ref 0), (6, V.int .u64 y1), (7, V.int .i64 56)] [Ob.row 5 y2 y3 false]
theorem e117l2 (k m q0 q1 : Nat) (y1 : Int) (y2 : Nat) (y3 : List V) : runL C k 117 2 [true, true, true, true, true, false] [] (m + 1) [(3, V.ref 0), (6, V.int .u64 y1)] [Ob.row 5 y2 y3 false] = T117l2
 (orc C k) k m q0 q1 y1 y2 y3 := by kernel_rfl
theorem E117l2 (y1 : Int) (y2 : Nat) (y3 : List V) {r : V} (h : T117l2 (orcE C) 0 0 0 0 y1 y2 y3 = some r) : loopE C 117 2 [true, true, true, true, true, false] [] [(3, V.ref 0), (6, V.int .u64 y1)]
 [Ob.row 5 y2 y3 false] = some r := ofL (j := 0) (F := fun s => T117l2 (orc C s.k) s.k s.m 0 0 y1 y2 y3) (fs0 fun k m => e117l2 k m 0 0 y1 y2 y3) (by
  unfold T117l2
  repeat' first | with_reducible exact cC | with_reducible refine cM ?_ | with_reducible refine cF ?_ ?_ | exact cD0 gK | exact cD0 gM) h

noncomputable def T175 (O : Orc) (k m q0 q1 : Nat) (y1 : Nat) (y2 : List V) (y3 : Int) (y4 : Int) (y5 : Int) (y6 : Nat) (y7 : List V) (y8 : Int) (y9 : Nat) (y10 : List V) (y11 : Int) (y12 : Int) (y13 :
 Int) (y14 : Nat) (y15 : List V) (y16 : Int) : Option V := need (O.R 0 53 [V.agg [V.sl y1 y2, V.int .i64 y3, V.int .i64 y4, V.int .i64 y5, V.sl y6 y7, V.int .i64 y8]]) fun x1 => asTup (some x1) fun x2
 => asSl x2[0]? fun x3 x4 => need (O.R 0 78 [V.sl x3 x4, V.sl y9 y10]) fun x5 => asTup (some x5) fun x6 => PI.asBool x6[0]? fun x7 => some (V.tup [V.bool x7])
theorem e175 (k m q0 q1 : Nat) (y1 : Nat) (y2 : List V) (y3 : Int) (y4 : Int) (y5 : Int) (y6 : Nat) (y7 : List V) (y8 : Int) (y9 : Nat) (y10 : List V) (y11 : Int) (y12 : Int) (y13 : Int) (y14 : Nat)
 (y15 : List V) (y16 : Int) : runV C (k + 1) 175 [V.agg [V.sl y1 y2, V.int .i64 y3, V.int .i64 y4, V.int .i64 y5, V.sl y6 y7, V.int .i64 y8], V.pin [V.sl y9 y10, V.int .i64 y11, V.int .i64 y12, V.int
 .i64 y13, V.sl y14 y15, V.int .i64 y16] 0] = T175 (orc C k) k m q0 q1 y1 y2 y3 y4 y5 y6 y7 y8 y9 y10 y11 y12 y13 y14 y15 y16 := by kernel_rfl
theorem E175 (y1 : Nat) (y2 : List V) (y3 : Int) (y4 : Int) (y5 : Int) (y6 : Nat) (y7 : List V) (y8 : Int) (y9 : Nat) (y10 : List V) (y11 : Int) (y12 : Int) (y13 : Int) (y14 : Nat) (y15 : List V) (y16
 : Int) {r : V} (h : T175 (orcE C) 0 0 0 0 y1 y2 y3 y4 y5 y6 y7 y8 y9 y10 y11 y12 y13 y14 y15 y16 = some r) : runE C 175 [V.agg [V.sl y1 y2, V.int .i64 y3, V.int .i64 y4, V.int .i64 y5, V.sl y6 y7,
 V.int .i64 y8], V.pin [V.sl y9 y10, V.int .i64 y11, V.int .i64 y12, V.int .i64 y13, V.sl y14 y15, V.int .i64 y16] 0] = some r := ofR (F := fun s => T175 (orc C s.k) s.k s.m 0 0 y1 y2 y3 y4 y5 y6 y7 y8
 y9 y10 y11 y12 y13 y14 y15 y16) (fun k => e175 k k 0 0 y1 y2 y3 y4 y5 y6 y7 y8 y9 y10 y11 y12 y13 y14 y15 y16) (by
  unfold T175
  repeat' first | with_reducible exact cC | with_reducible refine cN cR fun _ => ?_ | with_reducible refine cT fun _ => ?_ | with_reducible refine cB fun _ => ?_ | with_reducible refine cL fun _ _ => ?_ | with_reducible refine cN cC fun _ => ?_ | with_reducible exact cR) h

noncomputable def T215l2 (O : Orc) (k m q0 q1 : Nat) (y1 : Int) (y2 : Int) (y3 : Nat) (y4 : List V) : Option V := bif decide (y2 ≥ 0) then must (decide (0 ≤ IntKind.u64.wrap (IntKind.i64.wrap (8 *
 y2)))) (must (true && (y3 + 1).ble 140737488355328 && ((y3 + 1) * 1).ble 140737488355328) (O.L 0 215 2 [true, true, true, true, false, true] [] m [(3, V.ref 0), (4, V.int .i64 y1), (5, V.int .i64
 (IntKind.i64.wrap (y2 - 1)))] [Ob.row 5 (y3 + 1) (y4 ++ [V.int .u8 (IntKind.u8.wrap (y1.fdiv (2 ^ min (IntKind.u64.wrap (IntKind.i64.wrap (8 * y2))).toNat 64)))]) false])) else some (V.tup [V.sl y3
 y4])
theorem e215l2 (k m q0 q1 : Nat) (y1 : Int) (y2 : Int) (y3 : Nat) (y4 : List V) : runL C k 215 2 [true, true, true, true, false, true] [] (m + 1) [(3, V.ref 0), (4, V.int .i64 y1), (5, V.int .i64 y2)]
 [Ob.row 5 y3 y4 false] = T215l2 (orc C k) k m q0 q1 y1 y2 y3 y4 := by kernel_rfl
theorem E215l2 (y1 : Int) (y2 : Int) (y3 : Nat) (y4 : List V) {r : V} (h : T215l2 (orcE C) 0 0 0 0 y1 y2 y3 y4 = some r) : loopE C 215 2 [true, true, true, true, false, true] [] [(3, V.ref 0), (4,
 V.int .i64 y1), (5, V.int .i64 y2)] [Ob.row 5 y3 y4 false] = some r := ofL (j := 0) (F := fun s => T215l2 (orc C s.k) s.k s.m 0 0 y1 y2 y3 y4) (fs0 fun k m => e215l2 k m 0 0 y1 y2 y3 y4) (by
  unfold T215l2
  repeat' first | with_reducible exact cC | with_reducible refine cM ?_ | with_reducible refine cF ?_ ?_ | exact cD0 gM) h

noncomputable def T216 (O : Orc) (k m q0 q1 : Nat) (y1 : Nat) (y2 : List V) : Option V := O.L 0 216 0 [true, true, false, true] [] k [(0, V.sl y1 y2), (3, V.int .i64 0), (4, V.int .i64 0)] []
theorem e216 (k m q0 q1 : Nat) (y1 : Nat) (y2 : List V) : runV C (k + 1) 216 [V.sl y1 y2] = T216 (orc C k) k m q0 q1 y1 y2 := by kernel_rfl
theorem E216 (y1 : Nat) (y2 : List V) {r : V} (h : T216 (orcE C) 0 0 0 0 y1 y2 = some r) : runE C 216 [V.sl y1 y2] = some r := ofR (F := fun s => T216 (orc C s.k) s.k s.m 0 0 y1 y2) (fun k => e216 k k
 0 0 y1 y2) (by
  unfold T216
  repeat' first | with_reducible exact cC | exact cD0 gK) h

noncomputable def T187l4 (O : Orc) (k m q0 q1 : Nat) (y1 : Nat) (y2 : List V) (y3 : Int) (y4 : Int) (y5 : List V) (y6 : List V) (y7 : List V) : Option V := bif decide (y4 < 64) then must (inB
 (IntKind.i64.wrap (y4 - 15)) 64) (PI.asInt .i64 y7[0 + (IntKind.i64.wrap (y4 - 15)).toNat * 1]? fun x1 => must (inB (IntKind.i64.wrap (y4 - 2)) 64) (PI.asInt .i64 y7[0 + (IntKind.i64.wrap (y4 -
 2)).toNat * 1]? fun x2 => need (O.R 0 217 [V.int .i64 x1, V.int .u64 7]) fun x3 => asTup (some x3) fun x4 => PI.asInt .i64 x4[0]? fun x5 => need (O.R 0 217 [V.int .i64 x1, V.int .u64 18]) fun x6 =>
 asTup (some x6) fun x7 => PI.asInt .i64 x7[0]? fun x8 => need (O.R 0 217 [V.int .i64 x2, V.int .u64 17]) fun x9 => asTup (some x9) fun x10 => PI.asInt .i64 x10[0]? fun x11 => need (O.R 0 217 [V.int
 .i64 x2, V.int .u64 19]) fun x12 => asTup (some x12) fun x13 => PI.asInt .i64 x13[0]? fun x14 => must (inB (IntKind.i64.wrap (y4 - 7)) 64) (PI.asInt .i64 y7[0 + (IntKind.i64.wrap (y4 - 7)).toNat * 1]?
 fun x15 => must (inB (IntKind.i64.wrap (y4 - 16)) 64) (PI.asInt .i64 y7[0 + (IntKind.i64.wrap (y4 - 16)).toNat * 1]? fun x16 => must (inB y4 64) (must ((V.int .i64 ((IntKind.i64.wrap (IntKind.i64.wrap
 (IntKind.i64.wrap (PI.bits IntKind.i64 (fun x1 x2 => x1 ^^^ x2) (PI.bits IntKind.i64 (fun x1 x2 => x1 ^^^ x2) x11 x14) (x2.fdiv 1024) + x15) + PI.bits IntKind.i64 (fun x1 x2 => x1 ^^^ x2) (PI.bits
 IntKind.i64 (fun x1 x2 => x1 ^^^ x2) x5 x8) (x1.fdiv 8)) + x16)).tmod 4294967296)).solid && true && (0 + y4.toNat * 1 + 1).ble y7.length && flatB C 219 [V.int .i64 ((IntKind.i64.wrap (IntKind.i64.wrap
 (IntKind.i64.wrap (PI.bits IntKind.i64 (fun x1 x2 => x1 ^^^ x2) (PI.bits IntKind.i64 (fun x1 x2 => x1 ^^^ x2) x11 x14) (x2.fdiv 1024) + x15) + PI.bits IntKind.i64 (fun x1 x2 => x1 ^^^ x2) (PI.bits
 IntKind.i64 (fun x1 x2 => x1 ^^^ x2) x5 x8) (x1.fdiv 8)) + x16)).tmod 4294967296)]) (O.L 0 187 4 [true, true, true, true, false, true, false, true, false, false, true, true, false, true] [q0] m [(3,
 V.ptr 0 0), (4, V.ptr 1 0), (5, V.sl y1 y2), (6, V.int .i64 y3), (7, V.ptr 2 0), (9, V.int .i64 (IntKind.i64.wrap (y4 + 1)))] [Ob.box 219 y5 false, Ob.box 221 y6 false, Ob.box 219 (splice y7 (0 +
 y4.toNat * 1) [V.int .i64 ((IntKind.i64.wrap (IntKind.i64.wrap (IntKind.i64.wrap (PI.bits IntKind.i64 (fun x1 x2 => x1 ^^^ x2) (PI.bits IntKind.i64 (fun x1 x2 => x1 ^^^ x2) x11 x14) (x2.fdiv 1024) +
 x15) + PI.bits IntKind.i64 (fun x1 x2 => x1 ^^^ x2) (PI.bits IntKind.i64 (fun x1 x2 => x1 ^^^ x2) x5 x8) (x1.fdiv 8)) + x16)).tmod 4294967296)]) false])))))) else PI.asInt .i64 y6[0]? fun x17 =>
 PI.asInt .i64 y6[1]? fun x18 => PI.asInt .i64 y6[2]? fun x19 => PI.asInt .i64 y6[3]? fun x20 => PI.asInt .i64 y6[4]? fun x21 => PI.asInt .i64 y6[5]? fun x22 => PI.asInt .i64 y6[6]? fun x23 => PI.asInt
 .i64 y6[7]? fun x24 => O.L 0 187 6 [true, true, true, true, false, true, false, true, false, false, true, true, true, true, false, true] [q0] k [(3, V.ptr 0 0), (4, V.ptr 1 0), (5, V.sl y1 y2), (6,
 V.int .i64 y3), (7, V.ptr 2 0), (14, V.ptr 3 0), (15, V.int .i64 0)] [Ob.box 219 y5 false, Ob.box 221 y6 false, Ob.box 219 y7 false, Ob.box 221 [V.int .i64 x17, V.int .i64 x18, V.int .i64 x19, V.int
 .i64 x20, V.int .i64 x21, V.int .i64 x22, V.int .i64 x23, V.int .i64 x24] false]
theorem e187l4 (k m q0 q1 : Nat) (y1 : Nat) (y2 : List V) (y3 : Int) (y4 : Int) (y5 : List V) (y6 : List V) (y7 : List V) : runL C k 187 4 [true, true, true, true, false, true, false, true, false,
 false, true, true, false, true] [q0] (m + 1) [(3, V.ptr 0 0), (4, V.ptr 1 0), (5, V.sl y1 y2), (6, V.int .i64 y3), (7, V.ptr 2 0), (9, V.int .i64 y4)] [Ob.box 219 y5 false, Ob.box 221 y6 false, Ob.box
 219 y7 false] = T187l4 (orc C k) k m q0 q1 y1 y2 y3 y4 y5 y6 y7 := by kernel_rfl
theorem E187l4 (y1 : Nat) (y2 : List V) (y3 : Int) (y4 : Int) (y5 : List V) (y6 : List V) (y7 : List V) {r : V} (h : T187l4 (orcE C) 0 0 0 0 y1 y2 y3 y4 y5 y6 y7 = some r) : loopE C 187 4 [true, true,
 true, true, false, true, false, true, false, false, true, true, false, true] [0] [(3, V.ptr 0 0), (4, V.ptr 1 0), (5, V.sl y1 y2), (6, V.int .i64 y3), (7, V.ptr 2 0), (9, V.int .i64 y4)] [Ob.box 219
 y5 false, Ob.box 221 y6 false, Ob.box 219 y7 false] = some r := ofL (j := 0) (F := fun s => T187l4 (orc C s.k) s.k s.m (s.fs.getD 0 0) 0 y1 y2 y3 y4 y5 y6 y7) (fs1 fun k m q0 => e187l4 k m q0 0 y1 y2
 y3 y4 y5 y6 y7) (by
  unfold T187l4
  repeat' first | with_reducible exact cC | with_reducible refine cN cR fun _ => ?_ | with_reducible refine cT fun _ => ?_ | with_reducible refine cI fun _ => ?_ | with_reducible refine cM ?_ | with_reducible refine cF ?_ ?_ | with_reducible refine cN cC fun _ => ?_ | with_reducible exact cR | exact cD1 gK (gF (i := 0) (by decide)) | exact cD1 gM (gF (i := 0) (by decide))) h

noncomputable def T187l5 (O : Orc) (k m q0 q1 : Nat) (y1 : Int) (y2 : Int) (y3 : List V) (y4 : Nat) (y5 : List V) : Option V := bif decide (y2 ≥ 0) then must (inB y1 8) (PI.asInt .i64 y3[0 + y1.toNat *
 1]? fun x1 => must (decide (0 ≤ IntKind.u64.wrap (IntKind.i64.wrap (8 * y2)))) (must (true && (y4 + 1).ble 140737488355328 && ((y4 + 1) * 1).ble 140737488355328) (O.L 0 187 12 [true, true, true, true,
 true, true, false, true, false, true, false, false, true] [q0] m [(4, V.ptr 0 0), (17, V.ref 1), (18, V.int .i64 y1), (19, V.int .i64 (IntKind.i64.wrap (y2 - 1)))] [Ob.box 221 y3 false, Ob.row 5 (y4 +
 1) (y5 ++ [V.int .u8 (IntKind.u8.wrap (x1.fdiv (2 ^ min (IntKind.u64.wrap (IntKind.i64.wrap (8 * y2))).toNat 64)))]) false]))) else O.L 0 187 10 [true, true, true, true, true, true, false, true] [] q0
 [(4, V.ptr 0 0), (17, V.ref 1), (18, V.int .i64 (IntKind.i64.wrap (y1 + 1)))] [Ob.box 221 y3 false, Ob.row 5 y4 y5 false]
theorem e187l5 (k m q0 q1 : Nat) (y1 : Int) (y2 : Int) (y3 : List V) (y4 : Nat) (y5 : List V) : runL C k 187 12 [true, true, true, true, true, true, false, true, false, true, false, false, true] [q0]
 (m + 1) [(4, V.ptr 0 0), (17, V.ref 1), (18, V.int .i64 y1), (19, V.int .i64 y2)] [Ob.box 221 y3 false, Ob.row 5 y4 y5 false] = T187l5 (orc C k) k m q0 q1 y1 y2 y3 y4 y5 := by kernel_rfl
theorem E187l5 (y1 : Int) (y2 : Int) (y3 : List V) (y4 : Nat) (y5 : List V) {r : V} (h : T187l5 (orcE C) 0 0 0 0 y1 y2 y3 y4 y5 = some r) : loopE C 187 12 [true, true, true, true, true, true, false,
 true, false, true, false, false, true] [0] [(4, V.ptr 0 0), (17, V.ref 1), (18, V.int .i64 y1), (19, V.int .i64 y2)] [Ob.box 221 y3 false, Ob.row 5 y4 y5 false] = some r := ofL (j := 0) (F := fun s =>
 T187l5 (orc C s.k) s.k s.m (s.fs.getD 0 0) 0 y1 y2 y3 y4 y5) (fs1 fun k m q0 => e187l5 k m q0 0 y1 y2 y3 y4 y5) (by
  unfold T187l5
  repeat' first | with_reducible exact cC | with_reducible refine cI fun _ => ?_ | with_reducible refine cM ?_ | with_reducible refine cF ?_ ?_ | exact cD0 (gF (i := 0) (by decide)) | exact cD1 gM (gF (i := 0) (by decide))) h

noncomputable def T178 (O : Orc) (k m q0 q1 : Nat) (y1 : Nat) (y2 : List V) : Option V := need (O.R 0 143 [V.sl y1 y2]) fun x1 => asTup (some x1) fun x2 => PI.asBool x2[0]? fun x3 => some (V.tup
 [V.bool !x3])
theorem e178 (k m q0 q1 : Nat) (y1 : Nat) (y2 : List V) : runV C (k + 1) 178 [V.sl y1 y2] = T178 (orc C k) k m q0 q1 y1 y2 := by kernel_rfl
theorem E178 (y1 : Nat) (y2 : List V) {r : V} (h : T178 (orcE C) 0 0 0 0 y1 y2 = some r) : runE C 178 [V.sl y1 y2] = some r := ofR (F := fun s => T178 (orc C s.k) s.k s.m 0 0 y1 y2) (fun k => e178 k k
 0 0 y1 y2) (by
  unfold T178
  repeat' first | with_reducible exact cC | with_reducible refine cN cR fun _ => ?_ | with_reducible refine cT fun _ => ?_ | with_reducible refine cB fun _ => ?_ | with_reducible refine cN cC fun _ => ?_ | with_reducible exact cR) h

noncomputable def T230 (O : Orc) (k m q0 q1 : Nat) (y1 : Int) : Option V := must (inB y1 256) (some (V.tup [V.int .i64 (IntKind.i64.wrap (↑(([0, 1, 2, 2, 3, 3, 3, 3, 4, 4, 4, 4, 4, 4, 4, 4, 5, 5, 5, 5,
 5, 5, 5, 5, 5, 5, 5, 5, 5, 5, 5, 5, 6, 6, 6, 6, 6, 6, 6, 6, 6, 6, 6, 6, 6, 6, 6, 6, 6, 6, 6, 6, 6, 6, 6, 6, 6, 6, 6, 6, 6, 6, 6, 6, 7, 7, 7, 7, 7, 7, 7, 7, 7, 7, 7, 7, 7, 7, 7, 7, 7, 7, 7, 7, 7, 7, 7,
 7, 7, 7, 7, 7, 7, 7, 7, 7, 7, 7, 7, 7, 7, 7, 7, 7, 7, 7, 7, 7, 7, 7, 7, 7, 7, 7, 7, 7, 7, 7, 7, 7, 7, 7, 7, 7, 7, 7, 7, 7, 8, 8, 8, 8, 8, 8, 8, 8, 8, 8, 8, 8, 8, 8, 8, 8, 8, 8, 8, 8, 8, 8, 8, 8, 8, 8,
 8, 8, 8, 8, 8, 8, 8, 8, 8, 8, 8, 8, 8, 8, 8, 8, 8, 8, 8, 8, 8, 8, 8, 8, 8, 8, 8, 8, 8, 8, 8, 8, 8, 8, 8, 8, 8, 8, 8, 8, 8, 8, 8, 8, 8, 8, 8, 8, 8, 8, 8, 8, 8, 8, 8, 8, 8, 8, 8, 8, 8, 8, 8, 8, 8, 8, 8,
 8, 8, 8, 8, 8, 8, 8, 8, 8, 8, 8, 8, 8, 8, 8, 8, 8, 8, 8, 8, 8, 8, 8, 8, 8, 8, 8, 8, 8, 8, 8, 8, 8, 8, 8] : List UInt8).getD y1.toNat (OfNat.ofNat 0)).toNat : Int))]))
theorem e230 (k m q0 q1 : Nat) (y1 : Int) : runV C (k + 1) 230 [V.int .u8 y1] = T230 (orc C k) k m q0 q1 y1 := by kernel_rfl
theorem E230 (y1 : Int) {r : V} (h : T230 (orcE C) 0 0 0 0 y1 = some r) : runE C 230 [V.int .u8 y1] = some r := ofR (F := fun s => T230 (orc C s.k) s.k s.m 0 0 y1) (fun k => e230 k k 0 0 y1) (by
  unfold T230
  repeat' first | with_reducible exact cC | with_reducible refine cM ?_) h

noncomputable def T117l3 (O : Orc) (k m q0 q1 : Nat) (y1 : Int) (y2 : Int) (y3 : Nat) (y4 : List V) : Option V := bif decide (y2 ≥ 0) then must (decide (0 ≤ y2)) (must (true && (y3 + 1).ble
 140737488355328 && ((y3 + 1) * 1).ble 140737488355328) (O.L 0 117 4 [true, true, true, true, true, true, false, true] [] m [(3, V.ref 0), (6, V.int .u64 y1), (7, V.int .i64 (IntKind.i64.wrap (y2 -
 8)))] [Ob.row 5 (y3 + 1) (y4 ++ [V.int .u8 (IntKind.u8.wrap (y1.fdiv (2 ^ min y2.toNat 64)))]) false])) else O.L 0 117 6 [true, true, true, true, true, true, true, true, false] [] k [(3, V.ref 0), (8,
 V.ptr 1 0)] [Ob.row 5 y3 y4 false, Ob.box 194 [V.int .u32 1779033703, V.int .u32 3144134277, V.int .u32 1013904242, V.int .u32 2773480762, V.int .u32 1359893119, V.int .u32 2600822924, V.int .u32
 528734635, V.int .u32 1541459225] false]
theorem e117l3 (k m q0 q1 : Nat) (y1 : Int) (y2 : Int) (y3 : Nat) (y4 : List V) : runL C k 117 4 [true, true, true, true, true, true, false, true] [] (m + 1) [(3, V.ref 0), (6, V.int .u64 y1), (7,
 V.int .i64 y2)] [Ob.row 5 y3 y4 false] = T117l3 (orc C k) k m q0 q1 y1 y2 y3 y4 := by kernel_rfl
theorem E117l3 (y1 : Int) (y2 : Int) (y3 : Nat) (y4 : List V) {r : V} (h : T117l3 (orcE C) 0 0 0 0 y1 y2 y3 y4 = some r) : loopE C 117 4 [true, true, true, true, true, true, false, true] [] [(3, V.ref
 0), (6, V.int .u64 y1), (7, V.int .i64 y2)] [Ob.row 5 y3 y4 false] = some r := ofL (j := 0) (F := fun s => T117l3 (orc C s.k) s.k s.m 0 0 y1 y2 y3 y4) (fs0 fun k m => e117l3 k m 0 0 y1 y2 y3 y4) (by
  unfold T117l3
  repeat' first | with_reducible exact cC | with_reducible refine cM ?_ | with_reducible refine cF ?_ ?_ | exact cD0 gK | exact cD0 gM) h

noncomputable def T216l1 (O : Orc) (k m q0 q1 : Nat) (y1 : Nat) (y2 : List V) (y3 : Int) (y4 : Int) : Option V := bif decide (y4 < (↑y1 : Int)) then must (inB y4 y1) (PI.asInt .u8 y2[y4.toNat * 1]? fun
 x1 => O.L 0 216 0 [true, true, false, true] [] m [(0, V.sl y1 y2), (3, V.int .i64 (IntKind.i64.wrap (IntKind.i64.wrap (y3 * 256) + IntKind.i64.wrap x1))), (4, V.int .i64 (IntKind.i64.wrap (y4 + 1)))]
 []) else some (V.tup [V.int .i64 y3])
theorem e216l1 (k m q0 q1 : Nat) (y1 : Nat) (y2 : List V) (y3 : Int) (y4 : Int) : runL C k 216 0 [true, true, false, true] [] (m + 1) [(0, V.sl y1 y2), (3, V.int .i64 y3), (4, V.int .i64 y4)] [] =
 T216l1 (orc C k) k m q0 q1 y1 y2 y3 y4 := by kernel_rfl
theorem E216l1 (y1 : Nat) (y2 : List V) (y3 : Int) (y4 : Int) {r : V} (h : T216l1 (orcE C) 0 0 0 0 y1 y2 y3 y4 = some r) : loopE C 216 0 [true, true, false, true] [] [(0, V.sl y1 y2), (3, V.int .i64
 y3), (4, V.int .i64 y4)] [] = some r := ofL (j := 0) (F := fun s => T216l1 (orc C s.k) s.k s.m 0 0 y1 y2 y3 y4) (fs0 fun k m => e216l1 k m 0 0 y1 y2 y3 y4) (by
  unfold T216l1
  repeat' first | with_reducible exact cC | with_reducible refine cI fun _ => ?_ | with_reducible refine cM ?_ | with_reducible refine cF ?_ ?_ | exact cD0 gM) h

noncomputable def T217 (O : Orc) (k m q0 q1 : Nat) (y1 : Int) (y2 : Int) : Option V := must (decide (0 ≤ y2)) (must (decide (0 ≤ IntKind.u64.wrap (32 - y2))) (some (V.tup [V.int .i64 ((PI.bits
 IntKind.i64 (fun x1 x2 => x1 ||| x2) (y1.fdiv (2 ^ min y2.toNat 64)) (IntKind.i64.wrap (y1 * 2 ^ min (IntKind.u64.wrap (32 - y2)).toNat 64))).tmod 4294967296)])))
theorem e217 (k m q0 q1 : Nat) (y1 : Int) (y2 : Int) : runV C (k + 1) 217 [V.int .i64 y1, V.int .u64 y2] = T217 (orc C k) k m q0 q1 y1 y2 := by kernel_rfl
theorem E217 (y1 : Int) (y2 : Int) {r : V} (h : T217 (orcE C) 0 0 0 0 y1 y2 = some r) : runE C 217 [V.int .i64 y1, V.int .u64 y2] = some r := ofR (F := fun s => T217 (orc C s.k) s.k s.m 0 0 y1 y2) (fun
 k => e217 k k 0 0 y1 y2) (by
  unfold T217
  repeat' first | with_reducible exact cC | with_reducible refine cM ?_) h

noncomputable def T187l6 (O : Orc) (k m q0 q1 : Nat) (y1 : Nat) (y2 : List V) (y3 : Int) (y4 : Int) (y5 : List V) (y6 : List V) (y7 : List V) (y8 : List V) : Option V := bif decide (y4 < 64) then
 PI.asInt .i64 y8[0]? fun x1 => PI.asInt .i64 y8[1]? fun x2 => PI.asInt .i64 y8[2]? fun x3 => PI.asInt .i64 y8[3]? fun x4 => PI.asInt .i64 y8[4]? fun x5 => PI.asInt .i64 y8[5]? fun x6 => PI.asInt .i64
 y8[6]? fun x7 => PI.asInt .i64 y8[7]? fun x8 => must (inB y4 64) (PI.asInt .i64 y7[0 + y4.toNat * 1]? fun x9 => must (inB y4 64) (PI.asInt .i64 y5[0 + y4.toNat * 1]? fun x10 => need (O.R 0 218 [V.agg
 [V.int .i64 x1, V.int .i64 x2, V.int .i64 x3, V.int .i64 x4, V.int .i64 x5, V.int .i64 x6, V.int .i64 x7, V.int .i64 x8], V.int .i64 x9, V.int .i64 x10]) fun x11 => asTup (some x11) fun x12 =>
 PI.asInt .i64 x12[0]? fun x13 => PI.asInt .i64 x12[1]? fun x14 => PI.asInt .i64 x12[2]? fun x15 => PI.asInt .i64 x12[3]? fun x16 => PI.asInt .i64 x12[4]? fun x17 => PI.asInt .i64 x12[5]? fun x18 =>
 PI.asInt .i64 x12[6]? fun x19 => PI.asInt .i64 x12[7]? fun x20 => must ([V.int .i64 x13, V.int .i64 x14, V.int .i64 x15, V.int .i64 x16, V.int .i64 x17, V.int .i64 x18, V.int .i64 x19, V.int .i64
 x20].length.beq 8 && true && (0 + [V.int .i64 x13, V.int .i64 x14, V.int .i64 x15, V.int .i64 x16, V.int .i64 x17, V.int .i64 x18, V.int .i64 x19, V.int .i64 x20].length).ble y8.length && flatB C 221
 [V.int .i64 x13, V.int .i64 x14, V.int .i64 x15, V.int .i64 x16, V.int .i64 x17, V.int .i64 x18, V.int .i64 x19, V.int .i64 x20]) (O.L 0 187 6 [true, true, true, true, false, true, false, true, false,
 false, true, true, true, true, false, true] [q0] m [(3, V.ptr 0 0), (4, V.ptr 1 0), (5, V.sl y1 y2), (6, V.int .i64 y3), (7, V.ptr 2 0), (14, V.ptr 3 0), (15, V.int .i64 (IntKind.i64.wrap (y4 + 1)))]
 [Ob.box 219 y5 false, Ob.box 221 y6 false, Ob.box 219 y7 false, Ob.box 221 (splice y8 0 [V.int .i64 x13, V.int .i64 x14, V.int .i64 x15, V.int .i64 x16, V.int .i64 x17, V.int .i64 x18, V.int .i64 x19,
 V.int .i64 x20]) false]))) else O.L 0 187 8 [true, true, true, true, false, true, false, true, false, false, true, true, true, true, true, true] [q0] k [(3, V.ptr 0 0), (4, V.ptr 1 0), (5, V.sl y1
 y2), (6, V.int .i64 y3), (14, V.ptr 2 0), (16, V.int .i64 0)] [Ob.box 219 y5 false, Ob.box 221 y6 false, Ob.box 221 y8 false]
theorem e187l6 (k m q0 q1 : Nat) (y1 : Nat) (y2 : List V) (y3 : Int) (y4 : Int) (y5 : List V) (y6 : List V) (y7 : List V) (y8 : List V) : runL C k 187 6 [true, true, true, true, false, true, false,
 true, false, false, true, true, true, true, false, true] [q0] (m + 1) [(3, V.ptr 0 0), (4, V.ptr 1 0), (5, V.sl y1 y2), (6, V.int .i64 y3), (7, V.ptr 2 0), (14, V.ptr 3 0), (15, V.int .i64 y4)]
 [Ob.box 219 y5 false, Ob.box 221 y6 false, Ob.box 219 y7 false, Ob.box 221 y8 false] = T187l6 (orc C k) k m q0 q1 y1 y2 y3 y4 y5 y6 y7 y8 := by kernel_rfl
theorem E187l6 (y1 : Nat) (y2 : List V) (y3 : Int) (y4 : Int) (y5 : List V) (y6 : List V) (y7 : List V) (y8 : List V) {r : V} (h : T187l6 (orcE C) 0 0 0 0 y1 y2 y3 y4 y5 y6 y7 y8 = some r) : loopE C
 187 6 [true, true, true, true, false, true, false, true, false, false, true, true, true, true, false, true] [0] [(3, V.ptr 0 0), (4, V.ptr 1 0), (5, V.sl y1 y2), (6, V.int .i64 y3), (7, V.ptr 2 0),
 (14, V.ptr 3 0), (15, V.int .i64 y4)] [Ob.box 219 y5 false, Ob.box 221 y6 false, Ob.box 219 y7 false, Ob.box 221 y8 false] = some r := ofL (j := 0) (F := fun s => T187l6 (orc C s.k) s.k s.m (s.fs.getD
 0 0) 0 y1 y2 y3 y4 y5 y6 y7 y8) (fs1 fun k m q0 => e187l6 k m q0 0 y1 y2 y3 y4 y5 y6 y7 y8) (by
  unfold T187l6
  repeat' first | with_reducible exact cC | with_reducible refine cN cR fun _ => ?_ | with_reducible refine cT fun _ => ?_ | with_reducible refine cI fun _ => ?_ | with_reducible refine cM ?_ | with_reducible refine cF ?_ ?_ | with_reducible refine cN cC fun _ => ?_ | with_reducible exact cR | exact cD1 gK (gF (i := 0) (by decide)) | exact cD1 gM (gF (i := 0) (by decide))) h

noncomputable def T143 (O : Orc) (k m q0 q1 : Nat) (y1 : Nat) (y2 : List V) : Option V := some (V.tup [V.bool ((↑y1 : Int) == 32)])
theorem e143 (k m q0 q1 : Nat) (y1 : Nat) (y2 : List V) : runV C (k + 1) 143 [V.sl y1 y2] = T143 (orc C k) k m q0 q1 y1 y2 := by kernel_rfl
theorem E143 (y1 : Nat) (y2 : List V) {r : V} (h : T143 (orcE C) 0 0 0 0 y1 y2 = some r) : runE C 143 [V.sl y1 y2] = some r := ofR (F := fun s => T143 (orc C s.k) s.k s.m 0 0 y1 y2) (fun k => e143 k k
 0 0 y1 y2) (by
  unfold T143
  exact cC) h

noncomputable def T117l4 (O : Orc) (k m q0 q1 : Nat) (y1 : Nat) (y2 : List V) (y3 : List V) : Option V := bif decide ((↑y1 : Int) > 0) then PI.asInt .u32 y3[0]? fun x1 => PI.asInt .u32 y3[1]? fun x2 =>
 PI.asInt .u32 y3[2]? fun x3 => PI.asInt .u32 y3[3]? fun x4 => PI.asInt .u32 y3[4]? fun x5 => PI.asInt .u32 y3[5]? fun x6 => PI.asInt .u32 y3[6]? fun x7 => PI.asInt .u32 y3[7]? fun x8 => must (true &&
 decide (64 ≤ (↑y1 : Int))) (need (O.R 0 179 [V.agg [V.int .u32 x1, V.int .u32 x2, V.int .u32 x3, V.int .u32 x4, V.int .u32 x5, V.int .u32 x6, V.int .u32 x7, V.int .u32 x8], V.sl 64 (List.take 64
 (List.drop 0 y2))]) fun x9 => asTup (some x9) fun x10 => PI.asInt .u32 x10[0]? fun x11 => PI.asInt .u32 x10[1]? fun x12 => PI.asInt .u32 x10[2]? fun x13 => PI.asInt .u32 x10[3]? fun x14 => PI.asInt
 .u32 x10[4]? fun x15 => PI.asInt .u32 x10[5]? fun x16 => PI.asInt .u32 x10[6]? fun x17 => PI.asInt .u32 x10[7]? fun x18 => must ([V.int .u32 x11, V.int .u32 x12, V.int .u32 x13, V.int .u32 x14, V.int
 .u32 x15, V.int .u32 x16, V.int .u32 x17, V.int .u32 x18].length.beq 8 && true && (0 + [V.int .u32 x11, V.int .u32 x12, V.int .u32 x13, V.int .u32 x14, V.int .u32 x15, V.int .u32 x16, V.int .u32 x17,
 V.int .u32 x18].length).ble y3.length && flatB C 194 [V.int .u32 x11, V.int .u32 x12, V.int .u32 x13, V.int .u32 x14, V.int .u32 x15, V.int .u32 x16, V.int .u32 x17, V.int .u32 x18]) (must (true &&
 decide (64 ≤ (↑y1 : Int))) (O.L 0 117 6 [true, true, true, true, true, true, true, true, false] [] m [(3, V.sl (y1 - 64) (List.take ((y1 - 64) * 1) (List.drop 64 y2))), (8, V.ptr 0 0)] [Ob.box 194
 (splice y3 0 [V.int .u32 x11, V.int .u32 x12, V.int .u32 x13, V.int .u32 x14, V.int .u32 x15, V.int .u32 x16, V.int .u32 x17, V.int .u32 x18]) false]))) else PI.asInt .u32 y3[0]? fun x19 => PI.asInt
 .u32 y3[1]? fun x20 => PI.asInt .u32 y3[2]? fun x21 => PI.asInt .u32 y3[3]? fun x22 => PI.asInt .u32 y3[4]? fun x23 => PI.asInt .u32 y3[5]? fun x24 => PI.asInt .u32 y3[6]? fun x25 => PI.asInt .u32
 y3[7]? fun x26 => O.L 0 117 8 [true, true, true, true, true, true, true, true, true, true, false, true] [] k [(9, V.ref 0), (59, V.agg [V.int .u32 x19, V.int .u32 x20, V.int .u32 x21, V.int .u32 x22,
 V.int .u32 x23, V.int .u32 x24, V.int .u32 x25, V.int .u32 x26]), (60, V.int .i64 0)] [Ob.row 5 0 [] false]
theorem e117l4 (k m q0 q1 : Nat) (y1 : Nat) (y2 : List V) (y3 : List V) : runL C k 117 6 [true, true, true, true, true, true, true, true, false] [] (m + 1) [(3, V.ref 0), (8, V.ptr 1 0)] [Ob.row 5 y1
 y2 false, Ob.box 194 y3 false] = T117l4 (orc C k) k m q0 q1 y1 y2 y3 := by kernel_rfl
theorem E117l4 (y1 : Nat) (y2 : List V) (y3 : List V) {r : V} (h : T117l4 (orcE C) 0 0 0 0 y1 y2 y3 = some r) : loopE C 117 6 [true, true, true, true, true, true, true, true, false] [] [(3, V.ref 0),
 (8, V.ptr 1 0)] [Ob.row 5 y1 y2 false, Ob.box 194 y3 false] = some r := ofL (j := 0) (F := fun s => T117l4 (orc C s.k) s.k s.m 0 0 y1 y2 y3) (fs0 fun k m => e117l4 k m 0 0 y1 y2 y3) (by
  unfold T117l4
  repeat' first | with_reducible exact cC | with_reducible refine cN cR fun _ => ?_ | with_reducible refine cT fun _ => ?_ | with_reducible refine cI fun _ => ?_ | with_reducible refine cM ?_ | with_reducible refine cF ?_ ?_ | with_reducible refine cN cC fun _ => ?_ | with_reducible exact cR | exact cD0 gK | exact cD0 gM) h

noncomputable def T218 (O : Orc) (k m q0 q1 : Nat) (y1 : Int) (y2 : Int) (y3 : Int) (y4 : Int) (y5 : Int) (y6 : Int) (y7 : Int) (y8 : Int) (y9 : Int) (y10 : Int) : Option V := need (O.R 0 217 [V.int
 .i64 y5, V.int .u64 6]) fun x1 => asTup (some x1) fun x2 => PI.asInt .i64 x2[0]? fun x3 => need (O.R 0 217 [V.int .i64 y5, V.int .u64 11]) fun x4 => asTup (some x4) fun x5 => PI.asInt .i64 x5[0]? fun
 x6 => need (O.R 0 217 [V.int .i64 y5, V.int .u64 25]) fun x7 => asTup (some x7) fun x8 => PI.asInt .i64 x8[0]? fun x9 => need (O.R 0 232 [V.int .i64 y5]) fun x10 => asTup (some x10) fun x11 =>
 PI.asInt .i64 x11[0]? fun x12 => need (O.R 0 217 [V.int .i64 y1, V.int .u64 2]) fun x13 => asTup (some x13) fun x14 => PI.asInt .i64 x14[0]? fun x15 => need (O.R 0 217 [V.int .i64 y1, V.int .u64 13])
 fun x16 => asTup (some x16) fun x17 => PI.asInt .i64 x17[0]? fun x18 => need (O.R 0 217 [V.int .i64 y1, V.int .u64 22]) fun x19 => asTup (some x19) fun x20 => PI.asInt .i64 x20[0]? fun x21 => some
 (V.tup [V.int .i64 ((IntKind.i64.wrap ((IntKind.i64.wrap (IntKind.i64.wrap (IntKind.i64.wrap (IntKind.i64.wrap (y8 + PI.bits IntKind.i64 (fun x1 x2 => x1 ^^^ x2) (PI.bits IntKind.i64 (fun x1 x2 => x1
 ^^^ x2) x3 x6) x9) + PI.bits IntKind.i64 (fun x1 x2 => x1 ^^^ x2) (PI.bits IntKind.i64 (fun x1 x2 => x1 &&& x2) y5 y6) (PI.bits IntKind.i64 (fun x1 x2 => x1 &&& x2) x12 y7)) + y10) + y9)).tmod
 4294967296 + (IntKind.i64.wrap (PI.bits IntKind.i64 (fun x1 x2 => x1 ^^^ x2) (PI.bits IntKind.i64 (fun x1 x2 => x1 ^^^ x2) x15 x18) x21 + PI.bits IntKind.i64 (fun x1 x2 => x1 ^^^ x2) (PI.bits
 IntKind.i64 (fun x1 x2 => x1 ^^^ x2) (PI.bits IntKind.i64 (fun x1 x2 => x1 &&& x2) y1 y2) (PI.bits IntKind.i64 (fun x1 x2 => x1 &&& x2) y1 y3)) (PI.bits IntKind.i64 (fun x1 x2 => x1 &&& x2) y2
 y3))).tmod 4294967296)).tmod 4294967296), V.int .i64 y1, V.int .i64 y2, V.int .i64 y3, V.int .i64 ((IntKind.i64.wrap (y4 + (IntKind.i64.wrap (IntKind.i64.wrap (IntKind.i64.wrap (IntKind.i64.wrap (y8 +
 PI.bits IntKind.i64 (fun x1 x2 => x1 ^^^ x2) (PI.bits IntKind.i64 (fun x1 x2 => x1 ^^^ x2) x3 x6) x9) + PI.bits IntKind.i64 (fun x1 x2 => x1 ^^^ x2) (PI.bits IntKind.i64 (fun x1 x2 => x1 &&& x2) y5
 y6) (PI.bits IntKind.i64 (fun x1 x2 => x1 &&& x2) x12 y7)) + y10) + y9)).tmod 4294967296)).tmod 4294967296), V.int .i64 y5, V.int .i64 y6, V.int .i64 y7])
theorem e218 (k m q0 q1 : Nat) (y1 : Int) (y2 : Int) (y3 : Int) (y4 : Int) (y5 : Int) (y6 : Int) (y7 : Int) (y8 : Int) (y9 : Int) (y10 : Int) : runV C (k + 1) 218 [V.agg [V.int .i64 y1, V.int .i64 y2,
 V.int .i64 y3, V.int .i64 y4, V.int .i64 y5, V.int .i64 y6, V.int .i64 y7, V.int .i64 y8], V.int .i64 y9, V.int .i64 y10] = T218 (orc C k) k m q0 q1 y1 y2 y3 y4 y5 y6 y7 y8 y9 y10 := by kernel_rfl
theorem E218 (y1 : Int) (y2 : Int) (y3 : Int) (y4 : Int) (y5 : Int) (y6 : Int) (y7 : Int) (y8 : Int) (y9 : Int) (y10 : Int) {r : V} (h : T218 (orcE C) 0 0 0 0 y1 y2 y3 y4 y5 y6 y7 y8 y9 y10 = some r) :
 runE C 218 [V.agg [V.int .i64 y1, V.int .i64 y2, V.int .i64 y3, V.int .i64 y4, V.int .i64 y5, V.int .i64 y6, V.int .i64 y7, V.int .i64 y8], V.int .i64 y9, V.int .i64 y10] = some r := ofR (F := fun s
 => T218 (orc C s.k) s.k s.m 0 0 y1 y2 y3 y4 y5 y6 y7 y8 y9 y10) (fun k => e218 k k 0 0 y1 y2 y3 y4 y5 y6 y7 y8 y9 y10) (by
  unfold T218
  repeat' first | with_reducible exact cC | with_reducible refine cN cR fun _ => ?_ | with_reducible refine cT fun _ => ?_ | with_reducible refine cI fun _ => ?_ | with_reducible refine cN cC fun _ => ?_ | with_reducible exact cR) h

noncomputable def T187l7 (O : Orc) (k m q0 q1 : Nat) (y1 : Nat) (y2 : List V) (y3 : Int) (y4 : Int) (y5 : List V) (y6 : List V) (y7 : List V) : Option V := bif decide (y4 < 8) then must (inB y4 8)
 (PI.asInt .i64 y6[0 + y4.toNat * 1]? fun x1 => must (inB y4 8) (PI.asInt .i64 y7[0 + y4.toNat * 1]? fun x2 => must (inB y4 8) (must ((V.int .i64 ((IntKind.i64.wrap (x1 + x2)).tmod 4294967296)).solid
 && true && (0 + y4.toNat * 1 + 1).ble y6.length && flatB C 221 [V.int .i64 ((IntKind.i64.wrap (x1 + x2)).tmod 4294967296)]) (O.L 0 187 8 [true, true, true, true, false, true, false, true, false,
 false, true, true, true, true, true, true] [q0] m [(3, V.ptr 0 0), (4, V.ptr 1 0), (5, V.sl y1 y2), (6, V.int .i64 y3), (14, V.ptr 2 0), (16, V.int .i64 (IntKind.i64.wrap (y4 + 1)))] [Ob.box 219 y5
 false, Ob.box 221 (splice y6 (0 + y4.toNat * 1) [V.int .i64 ((IntKind.i64.wrap (x1 + x2)).tmod 4294967296)]) false, Ob.box 221 y7 false])))) else O.L 0 187 0 [true, true, true, true, false, true] []
 q0 [(3, V.ptr 0 0), (4, V.ptr 1 0), (5, V.sl y1 y2), (6, V.int .i64 (IntKind.i64.wrap (y3 + 64)))] [Ob.box 219 y5 false, Ob.box 221 y6 false]
theorem e187l7 (k m q0 q1 : Nat) (y1 : Nat) (y2 : List V) (y3 : Int) (y4 : Int) (y5 : List V) (y6 : List V) (y7 : List V) : runL C k 187 8 [true, true, true, true, false, true, false, true, false,
 false, true, true, true, true, true, true] [q0] (m + 1) [(3, V.ptr 0 0), (4, V.ptr 1 0), (5, V.sl y1 y2), (6, V.int .i64 y3), (14, V.ptr 2 0), (16, V.int .i64 y4)] [Ob.box 219 y5 false, Ob.box 221 y6
 false, Ob.box 221 y7 false] = T187l7 (orc C k) k m q0 q1 y1 y2 y3 y4 y5 y6 y7 := by kernel_rfl
theorem E187l7 (y1 : Nat) (y2 : List V) (y3 : Int) (y4 : Int) (y5 : List V) (y6 : List V) (y7 : List V) {r : V} (h : T187l7 (orcE C) 0 0 0 0 y1 y2 y3 y4 y5 y6 y7 = some r) : loopE C 187 8 [true, true,
 true, true, false, true, false, true, false, false, true, true, true, true, true, true] [0] [(3, V.ptr 0 0), (4, V.ptr 1 0), (5, V.sl y1 y2), (6, V.int .i64 y3), (14, V.ptr 2 0), (16, V.int .i64 y4)]
 [Ob.box 219 y5 false, Ob.box 221 y6 false, Ob.box 221 y7 false] = some r := ofL (j := 0) (F := fun s => T187l7 (orc C s.k) s.k s.m (s.fs.getD 0 0) 0 y1 y2 y3 y4 y5 y6 y7) (fs1 fun k m q0 => e187l7 k m
 q0 0 y1 y2 y3 y4 y5 y6 y7) (by
  unfold T187l7
  repeat' first | with_reducible exact cC | with_reducible refine cI fun _ => ?_ | with_reducible refine cM ?_ | with_reducible refine cF ?_ ?_ | exact cD0 (gF (i := 0) (by decide)) | exact cD1 gM (gF (i := 0) (by decide))) h

noncomputable def T179 (O : Orc) (k m q0 q1 : Nat) (y1 : Int) (y2 : Int) (y3 : Int) (y4 : Int) (y5 : Int) (y6 : Int) (y7 : Int) (y8 : Int) (y9 : Nat) (y10 : List V) : Option V := O.L 0 179 0 [true,
 true, false, true] [] k [(1, V.sl y9 y10), (2, V.ptr 0 0), (4, V.ptr 1 0), (5, V.ptr 2 0), (16, V.int .i64 0)] [Ob.box 194 [V.int .u32 y1, V.int .u32 y2, V.int .u32 y3, V.int .u32 y4, V.int .u32 y5,
 V.int .u32 y6, V.int .u32 y7, V.int .u32 y8] false, Ob.box 194 [V.int .u32 0, V.int .u32 0, V.int .u32 0, V.int .u32 0, V.int .u32 0, V.int .u32 0, V.int .u32 0, V.int .u32 0] false, Ob.box 215 [V.int
 .u32 0, V.int .u32 0, V.int .u32 0, V.int .u32 0, V.int .u32 0, V.int .u32 0, V.int .u32 0, V.int .u32 0, V.int .u32 0, V.int .u32 0, V.int .u32 0, V.int .u32 0, V.int .u32 0, V.int .u32 0, V.int .u32
 0, V.int .u32 0, V.int .u32 0, V.int .u32 0, V.int .u32 0, V.int .u32 0, V.int .u32 0, V.int .u32 0, V.int .u32 0, V.int .u32 0, V.int .u32 0, V.int .u32 0, V.int .u32 0, V.int .u32 0, V.int .u32 0,
 V.int .u32 0, V.int .u32 0, V.int .u32 0, V.int .u32 0, V.int .u32 0, V.int .u32 0, V.int .u32 0, V.int .u32 0, V.int .u32 0, V.int .u32 0, V.int .u32 0, V.int .u32 0, V.int .u32 0, V.int .u32 0,
 V.int .u32 0, V.int .u32 0, V.int .u32 0, V.int .u32 0, V.int .u32 0, V.int .u32 0, V.int .u32 0, V.int .u32 0, V.int .u32 0, V.int .u32 0, V.int .u32 0, V.int .u32 0, V.int .u32 0, V.int .u32 0,
 V.int .u32 0, V.int .u32 0, V.int .u32 0, V.int .u32 0, V.int .u32 0, V.int .u32 0, V.int .u32 0] false]
theorem e179 (k m q0 q1 : Nat) (y1 : Int) (y2 : Int) (y3 : Int) (y4 : Int) (y5 : Int) (y6 : Int) (y7 : Int) (y8 : Int) (y9 : Nat) (y10 : List V) : runV C (k + 1) 179 [V.agg [V.int .u32 y1, V.int .u32
 y2, V.int .u32 y3, V.int .u32 y4, V.int .u32 y5, V.int .u32 y6, V.int .u32 y7, V.int .u32 y8], V.sl y9 y10] = T179 (orc C k) k m q0 q1 y1 y2 y3 y4 y5 y6 y7 y8 y9 y10 := by kernel_rfl
theorem E179 (y1 : Int) (y2 : Int) (y3 : Int) (y4 : Int) (y5 : Int) (y6 : Int) (y7 : Int) (y8 : Int) (y9 : Nat) (y10 : List V) {r : V} (h : T179 (orcE C) 0 0 0 0 y1 y2 y3 y4 y5 y6 y7 y8 y9 y10 = some
 r) : runE C 179 [V.agg [V.int .u32 y1, V.int .u32 y2, V.int .u32 y3, V.int .u32 y4, V.int .u32 y5, V.int .u32 y6, V.int .u32 y7, V.int .u32 y8], V.sl y9 y10] = some r := ofR (F := fun s => T179 (orc C
 s.k) s.k s.m 0 0 y1 y2 y3 y4 y5 y6 y7 y8 y9 y10) (fun k => e179 k k 0 0 y1 y2 y3 y4 y5 y6 y7 y8 y9 y10) (by
  unfold T179
  repeat' first | with_reducible exact cC | exact cD0 gK) h

noncomputable def T117l5 (O : Orc) (k m q0 q1 : Nat) (y1 : Nat) (y2 : List V) (y3 : List V) : Option V := bif decide ((↑y1 : Int) > 0) then PI.asInt .u32 y3[0]? fun x1 => PI.asInt .u32 y3[1]? fun x2 =>
 PI.asInt .u32 y3[2]? fun x3 => PI.asInt .u32 y3[3]? fun x4 => PI.asInt .u32 y3[4]? fun x5 => PI.asInt .u32 y3[5]? fun x6 => PI.asInt .u32 y3[6]? fun x7 => PI.asInt .u32 y3[7]? fun x8 => must (true &&
 decide (64 ≤ (↑y1 : Int))) (need (O.R 0 179 [V.agg [V.int .u32 x1, V.int .u32 x2, V.int .u32 x3, V.int .u32 x4, V.int .u32 x5, V.int .u32 x6, V.int .u32 x7, V.int .u32 x8], V.sl 64 (List.take 64
 (List.drop 0 y2))]) fun x9 => asTup (some x9) fun x10 => PI.asInt .u32 x10[0]? fun x11 => PI.asInt .u32 x10[1]? fun x12 => PI.asInt .u32 x10[2]? fun x13 => PI.asInt .u32 x10[3]? fun x14 => PI.asInt
 .u32 x10[4]? fun x15 => PI.asInt .u32 x10[5]? fun x16 => PI.asInt .u32 x10[6]? fun x17 => PI.asInt .u32 x10[7]? fun x18 => must ([V.int .u32 x11, V.int .u32 x12, V.int .u32 x13, V.int .u32 x14, V.int
 .u32 x15, V.int .u32 x16, V.int .u32 x17, V.int .u32 x18].length.beq 8 && true && (0 + [V.int .u32 x11, V.int .u32 x12, V.int .u32 x13, V.int .u32 x14, V.int .u32 x15, V.int .u32 x16, V.int .u32 x17,
 V.int .u32 x18].length).ble y3.length && flatB C 194 [V.int .u32 x11, V.int .u32 x12, V.int .u32 x13, V.int .u32 x14, V.int .u32 x15, V.int .u32 x16, V.int .u32 x17, V.int .u32 x18]) (must (true &&
 decide (64 ≤ (↑y1 : Int))) (O.L 0 117 6 [true, true, true, true, true, true, true, true, false] [] m [(3, V.sl (y1 - 64) (List.take ((y1 - 64) * 1) (List.drop 64 y2))), (8, V.ptr 0 0)] [Ob.box 194
 (splice y3 0 [V.int .u32 x11, V.int .u32 x12, V.int .u32 x13, V.int .u32 x14, V.int .u32 x15, V.int .u32 x16, V.int .u32 x17, V.int .u32 x18]) false]))) else PI.asInt .u32 y3[0]? fun x19 => PI.asInt
 .u32 y3[1]? fun x20 => PI.asInt .u32 y3[2]? fun x21 => PI.asInt .u32 y3[3]? fun x22 => PI.asInt .u32 y3[4]? fun x23 => PI.asInt .u32 y3[5]? fun x24 => PI.asInt .u32 y3[6]? fun x25 => PI.asInt .u32
 y3[7]? fun x26 => O.L 0 117 8 [true, true, true, true, true, true, true, true, true, true, false, true] [] k [(9, V.ref 0), (59, V.agg [V.int .u32 x19, V.int .u32 x20, V.int .u32 x21, V.int .u32 x22,
 V.int .u32 x23, V.int .u32 x24, V.int .u32 x25, V.int .u32 x26]), (60, V.int .i64 0)] [Ob.row 5 0 [] false]
theorem e117l5 (k m q0 q1 : Nat) (y1 : Nat) (y2 : List V) (y3 : List V) : runL C k 117 6 [true, true, true, true, true, true, true, true, false] [] (m + 1) [(3, V.sl y1 y2), (8, V.ptr 0 0)] [Ob.box 194
 y3 false] = T117l5 (orc C k) k m q0 q1 y1 y2 y3 := by kernel_rfl
theorem E117l5 (y1 : Nat) (y2 : List V) (y3 : List V) {r : V} (h : T117l5 (orcE C) 0 0 0 0 y1 y2 y3 = some r) : loopE C 117 6 [true, true, true, true, true, true, true, true, false] [] [(3, V.sl y1
 y2), (8, V.ptr 0 0)] [Ob.box 194 y3 false] = some r := ofL (j := 0) (F := fun s => T117l5 (orc C s.k) s.k s.m 0 0 y1 y2 y3) (fs0 fun k m => e117l5 k m 0 0 y1 y2 y3) (by
  unfold T117l5
  repeat' first | with_reducible exact cC | with_reducible refine cN cR fun _ => ?_ | with_reducible refine cT fun _ => ?_ | with_reducible refine cI fun _ => ?_ | with_reducible refine cM ?_ | with_reducible refine cF ?_ ?_ | with_reducible refine cN cC fun _ => ?_ | with_reducible exact cR | exact cD0 gK | exact cD0 gM) h

noncomputable def T117l6 (O : Orc) (k m q0 q1 : Nat) (y1 : Int) (y2 : Int) (y3 : Int) (y4 : Int) (y5 : Int) (y6 : Int) (y7 : Int) (y8 : Int) (y9 : Int) (y10 : Nat) (y11 : List V) : Option V := bif
 decide (y9 < 8) then must (inB y9 8) (PI.asInt .u32 [V.int .u32 y1, V.int .u32 y2, V.int .u32 y3, V.int .u32 y4, V.int .u32 y5, V.int .u32 y6, V.int .u32 y7, V.int .u32 y8][y9.toNat * 1]? fun x1 =>
 must (true && (y10 + 4).ble 140737488355328 && ((y10 + 4) * 1).ble 140737488355328) (O.L 0 117 8 [true, true, true, true, true, true, true, true, true, true, false, true] [] m [(9, V.ref 0), (59,
 V.agg [V.int .u32 y1, V.int .u32 y2, V.int .u32 y3, V.int .u32 y4, V.int .u32 y5, V.int .u32 y6, V.int .u32 y7, V.int .u32 y8]), (60, V.int .i64 (IntKind.i64.wrap (y9 + 1)))] [Ob.row 5 (y10 + 4) (y11
 ++ [V.int .u8 (IntKind.u8.wrap (x1.fdiv 16777216)), V.int .u8 (IntKind.u8.wrap (x1.fdiv 65536)), V.int .u8 (IntKind.u8.wrap (x1.fdiv 256)), V.int .u8 (IntKind.u8.wrap x1)]) false])) else some (V.tup
 [V.sl y10 y11])
theorem e117l6 (k m q0 q1 : Nat) (y1 : Int) (y2 : Int) (y3 : Int) (y4 : Int) (y5 : Int) (y6 : Int) (y7 : Int) (y8 : Int) (y9 : Int) (y10 : Nat) (y11 : List V) : runL C k 117 8 [true, true, true, true,
 true, true, true, true, true, true, false, true] [] (m + 1) [(9, V.ref 0), (59, V.agg [V.int .u32 y1, V.int .u32 y2, V.int .u32 y3, V.int .u32 y4, V.int .u32 y5, V.int .u32 y6, V.int .u32 y7, V.int
 .u32 y8]), (60, V.int .i64 y9)] [Ob.row 5 y10 y11 false] = T117l6 (orc C k) k m q0 q1 y1 y2 y3 y4 y5 y6 y7 y8 y9 y10 y11 := by kernel_rfl
theorem E117l6 (y1 : Int) (y2 : Int) (y3 : Int) (y4 : Int) (y5 : Int) (y6 : Int) (y7 : Int) (y8 : Int) (y9 : Int) (y10 : Nat) (y11 : List V) {r : V} (h : T117l6 (orcE C) 0 0 0 0 y1 y2 y3 y4 y5 y6 y7 y8
 y9 y10 y11 = some r) : loopE C 117 8 [true, true, true, true, true, true, true, true, true, true, false, true] [] [(9, V.ref 0), (59, V.agg [V.int .u32 y1, V.int .u32 y2, V.int .u32 y3, V.int .u32 y4,
 V.int .u32 y5, V.int .u32 y6, V.int .u32 y7, V.int .u32 y8]), (60, V.int .i64 y9)] [Ob.row 5 y10 y11 false] = some r := ofL (j := 0) (F := fun s => T117l6 (orc C s.k) s.k s.m 0 0 y1 y2 y3 y4 y5 y6 y7
 y8 y9 y10 y11) (fs0 fun k m => e117l6 k m 0 0 y1 y2 y3 y4 y5 y6 y7 y8 y9 y10 y11) (by
  unfold T117l6
  repeat' first | with_reducible exact cC | with_reducible refine cI fun _ => ?_ | with_reducible refine cM ?_ | with_reducible refine cF ?_ ?_ | exact cD0 gM) h

noncomputable def T232 (O : Orc) (k m q0 q1 : Nat) (y1 : Int) : Option V := some (V.tup [V.int .i64 (IntKind.i64.wrap (4294967295 - y1))])
theorem e232 (k m q0 q1 : Nat) (y1 : Int) : runV C (k + 1) 232 [V.int .i64 y1] = T232 (orc C k) k m q0 q1 y1 := by kernel_rfl
theorem E232 (y1 : Int) {r : V} (h : T232 (orcE C) 0 0 0 0 y1 = some r) : runE C 232 [V.int .i64 y1] = some r := ofR (F := fun s => T232 (orc C s.k) s.k s.m 0 0 y1) (fun k => e232 k k 0 0 y1) (by
  unfold T232
  exact cC) h

noncomputable def T179l1 (O : Orc) (k m q0 q1 : Nat) (y1 : Nat) (y2 : List V) (y3 : Int) (y4 : List V) (y5 : List V) (y6 : List V) : Option V := bif decide (y3 < 64) then bif decide (y3 < 16) then must
 (inB (IntKind.i64.wrap (4 * y3)) y1) (PI.asInt .u8 y2[(IntKind.i64.wrap (4 * y3)).toNat * 1]? fun x1 => must (inB (IntKind.i64.wrap (IntKind.i64.wrap (4 * y3) + 1)) y1) (PI.asInt .u8
 y2[(IntKind.i64.wrap (IntKind.i64.wrap (4 * y3) + 1)).toNat * 1]? fun x2 => must (inB (IntKind.i64.wrap (IntKind.i64.wrap (4 * y3) + 2)) y1) (PI.asInt .u8 y2[(IntKind.i64.wrap (IntKind.i64.wrap (4 *
 y3) + 2)).toNat * 1]? fun x3 => must (inB (IntKind.i64.wrap (IntKind.i64.wrap (4 * y3) + 3)) y1) (PI.asInt .u8 y2[(IntKind.i64.wrap (IntKind.i64.wrap (4 * y3) + 3)).toNat * 1]? fun x4 => must (inB y3
 64) (must ((V.int .u32 (PI.bits IntKind.u32 (fun x1 x2 => x1 ||| x2) (PI.bits IntKind.u32 (fun x1 x2 => x1 ||| x2) (PI.bits IntKind.u32 (fun x1 x2 => x1 ||| x2) (IntKind.u32.wrap (IntKind.u32.wrap x1
 * 16777216)) (IntKind.u32.wrap (IntKind.u32.wrap x2 * 65536))) (IntKind.u32.wrap (IntKind.u32.wrap x3 * 256))) (IntKind.u32.wrap x4))).solid && true && (0 + y3.toNat * 1 + 1).ble y6.length && flatB C
 215 [V.int .u32 (PI.bits IntKind.u32 (fun x1 x2 => x1 ||| x2) (PI.bits IntKind.u32 (fun x1 x2 => x1 ||| x2) (PI.bits IntKind.u32 (fun x1 x2 => x1 ||| x2) (IntKind.u32.wrap (IntKind.u32.wrap x1 *
 16777216)) (IntKind.u32.wrap (IntKind.u32.wrap x2 * 65536))) (IntKind.u32.wrap (IntKind.u32.wrap x3 * 256))) (IntKind.u32.wrap x4))]) (O.L 0 179 0 [true, true, false, true] [] m [(1, V.sl y1 y2), (2,
 V.ptr 0 0), (4, V.ptr 1 0), (5, V.ptr 2 0), (16, V.int .i64 (IntKind.i64.wrap (y3 + 1)))] [Ob.box 194 y4 false, Ob.box 194 y5 false, Ob.box 215 (splice y6 (0 + y3.toNat * 1) [V.int .u32 (PI.bits
 IntKind.u32 (fun x1 x2 => x1 ||| x2) (PI.bits IntKind.u32 (fun x1 x2 => x1 ||| x2) (PI.bits IntKind.u32 (fun x1 x2 => x1 ||| x2) (IntKind.u32.wrap (IntKind.u32.wrap x1 * 16777216)) (IntKind.u32.wrap
 (IntKind.u32.wrap x2 * 65536))) (IntKind.u32.wrap (IntKind.u32.wrap x3 * 256))) (IntKind.u32.wrap x4))]) false])))))) else must (inB (IntKind.i64.wrap (y3 - 15)) 64) (PI.asInt .u32 y6[0 +
 (IntKind.i64.wrap (y3 - 15)).toNat * 1]? fun x5 => must (inB (IntKind.i64.wrap (y3 - 2)) 64) (PI.asInt .u32 y6[0 + (IntKind.i64.wrap (y3 - 2)).toNat * 1]? fun x6 => need (O.R 0 210 [V.int .u32 x5,
 V.int .i64 (-7)]) fun x7 => asTup (some x7) fun x8 => PI.asInt .u32 x8[0]? fun x9 => need (O.R 0 210 [V.int .u32 x5, V.int .i64 (-18)]) fun x10 => asTup (some x10) fun x11 => PI.asInt .u32 x11[0]? fun
 x12 => need (O.R 0 210 [V.int .u32 x6, V.int .i64 (-17)]) fun x13 => asTup (some x13) fun x14 => PI.asInt .u32 x14[0]? fun x15 => need (O.R 0 210 [V.int .u32 x6, V.int .i64 (-19)]) fun x16 => asTup
 (some x16) fun x17 => PI.asInt .u32 x17[0]? fun x18 => must (inB (IntKind.i64.wrap (y3 - 7)) 64) (PI.asInt .u32 y6[0 + (IntKind.i64.wrap (y3 - 7)).toNat * 1]? fun x19 => must (inB (IntKind.i64.wrap
 (y3 - 16)) 64) (PI.asInt .u32 y6[0 + (IntKind.i64.wrap (y3 - 16)).toNat * 1]? fun x20 => must (inB y3 64) (must ((V.int .u32 (IntKind.u32.wrap (IntKind.u32.wrap (IntKind.u32.wrap (PI.bits IntKind.u32
 (fun x1 x2 => x1 ^^^ x2) (PI.bits IntKind.u32 (fun x1 x2 => x1 ^^^ x2) x15 x18) (x6.fdiv 1024) + x19) + PI.bits IntKind.u32 (fun x1 x2 => x1 ^^^ x2) (PI.bits IntKind.u32 (fun x1 x2 => x1 ^^^ x2) x9
 x12) (x5.fdiv 8)) + x20))).solid && true && (0 + y3.toNat * 1 + 1).ble y6.length && flatB C 215 [V.int .u32 (IntKind.u32.wrap (IntKind.u32.wrap (IntKind.u32.wrap (PI.bits IntKind.u32 (fun x1 x2 => x1
 ^^^ x2) (PI.bits IntKind.u32 (fun x1 x2 => x1 ^^^ x2) x15 x18) (x6.fdiv 1024) + x19) + PI.bits IntKind.u32 (fun x1 x2 => x1 ^^^ x2) (PI.bits IntKind.u32 (fun x1 x2 => x1 ^^^ x2) x9 x12) (x5.fdiv 8)) +
 x20))]) (O.L 0 179 0 [true, true, false, true] [] m [(1, V.sl y1 y2), (2, V.ptr 0 0), (4, V.ptr 1 0), (5, V.ptr 2 0), (16, V.int .i64 (IntKind.i64.wrap (y3 + 1)))] [Ob.box 194 y4 false, Ob.box 194 y5
 false, Ob.box 215 (splice y6 (0 + y3.toNat * 1) [V.int .u32 (IntKind.u32.wrap (IntKind.u32.wrap (IntKind.u32.wrap (PI.bits IntKind.u32 (fun x1 x2 => x1 ^^^ x2) (PI.bits IntKind.u32 (fun x1 x2 => x1
 ^^^ x2) x15 x18) (x6.fdiv 1024) + x19) + PI.bits IntKind.u32 (fun x1 x2 => x1 ^^^ x2) (PI.bits IntKind.u32 (fun x1 x2 => x1 ^^^ x2) x9 x12) (x5.fdiv 8)) + x20))]) false])))))) else PI.asInt .u32
 y4[0]? fun x21 => PI.asInt .u32 y4[1]? fun x22 => PI.asInt .u32 y4[2]? fun x23 => PI.asInt .u32 y4[3]? fun x24 => PI.asInt .u32 y4[4]? fun x25 => PI.asInt .u32 y4[5]? fun x26 => PI.asInt .u32 y4[6]?
 fun x27 => PI.asInt .u32 y4[7]? fun x28 => need (O.R 0 211 []) fun x29 => PI.asAgg (some x29) fun x30 => O.L 0 179 2 [true, true, true, true, false, true] [] k [(2, V.ptr 0 0), (4, V.ptr 1 0), (5,
 V.ptr 2 0), (11, V.ptr 3 0), (97, V.agg (renV.renL [] x30)), (98, V.int .i64 0)] [Ob.box 194 y4 false, Ob.box 194 y5 false, Ob.box 215 y6 false, Ob.box 194 [V.int .u32 x21, V.int .u32 x22, V.int .u32
 x23, V.int .u32 x24, V.int .u32 x25, V.int .u32 x26, V.int .u32 x27, V.int .u32 x28] false]
theorem e179l1 (k m q0 q1 : Nat) (y1 : Nat) (y2 : List V) (y3 : Int) (y4 : List V) (y5 : List V) (y6 : List V) : runL C k 179 0 [true, true, false, true] [] (m + 1) [(1, V.sl y1 y2), (2, V.ptr 0 0),
 (4, V.ptr 1 0), (5, V.ptr 2 0), (16, V.int .i64 y3)] [Ob.box 194 y4 false, Ob.box 194 y5 false, Ob.box 215 y6 false] = T179l1 (orc C k) k m q0 q1 y1 y2 y3 y4 y5 y6 := by kernel_rfl
theorem E179l1 (y1 : Nat) (y2 : List V) (y3 : Int) (y4 : List V) (y5 : List V) (y6 : List V) {r : V} (h : T179l1 (orcE C) 0 0 0 0 y1 y2 y3 y4 y5 y6 = some r) : loopE C 179 0 [true, true, false, true]
 [] [(1, V.sl y1 y2), (2, V.ptr 0 0), (4, V.ptr 1 0), (5, V.ptr 2 0), (16, V.int .i64 y3)] [Ob.box 194 y4 false, Ob.box 194 y5 false, Ob.box 215 y6 false] = some r := ofL (j := 0) (F := fun s => T179l1
 (orc C s.k) s.k s.m 0 0 y1 y2 y3 y4 y5 y6) (fs0 fun k m => e179l1 k m 0 0 y1 y2 y3 y4 y5 y6) (by
  unfold T179l1
  repeat' first | with_reducible exact cC | with_reducible refine cN cR fun _ => ?_ | with_reducible refine cT fun _ => ?_ | with_reducible refine cI fun _ => ?_ | with_reducible refine cM ?_ | with_reducible refine cF ?_ ?_ | with_reducible refine cA fun _ => ?_ | with_reducible refine cN cC fun _ => ?_ | with_reducible exact cR | exact cD0 gK | exact cD0 gM) h

noncomputable def T210 (O : Orc) (k m q0 q1 : Nat) (y1 : Int) (y2 : Int) : Option V := must (decide (0 ≤ IntKind.u64.wrap (32 - PI.bits IntKind.u64 (fun x1 x2 => x1 &&& x2) (IntKind.u64.wrap y2) 31)))
 (some (V.tup [V.int .u32 (PI.bits IntKind.u32 (fun x1 x2 => x1 ||| x2) (IntKind.u32.wrap (y1 * 2 ^ min (PI.bits IntKind.u64 (fun x1 x2 => x1 &&& x2) (IntKind.u64.wrap y2) 31).toNat 32)) (y1.fdiv (2 ^
 min (IntKind.u64.wrap (32 - PI.bits IntKind.u64 (fun x1 x2 => x1 &&& x2) (IntKind.u64.wrap y2) 31)).toNat 32)))]))
theorem e210 (k m q0 q1 : Nat) (y1 : Int) (y2 : Int) : runV C (k + 1) 210 [V.int .u32 y1, V.int .i64 y2] = T210 (orc C k) k m q0 q1 y1 y2 := by kernel_rfl
theorem E210 (y1 : Int) (y2 : Int) {r : V} (h : T210 (orcE C) 0 0 0 0 y1 y2 = some r) : runE C 210 [V.int .u32 y1, V.int .i64 y2] = some r := ofR (F := fun s => T210 (orc C s.k) s.k s.m 0 0 y1 y2) (fun
 k => e210 k k 0 0 y1 y2) (by
  unfold T210
  repeat' first | with_reducible exact cC | with_reducible refine cM ?_) h

noncomputable def T211 (O : Orc) (k m q0 q1 : Nat)  : Option V := some (V.agg [V.int .u32 1116352408, V.int .u32 1899447441, V.int .u32 3049323471, V.int .u32 3921009573, V.int .u32 961987163, V.int
 .u32 1508970993, V.int .u32 2453635748, V.int .u32 2870763221, V.int .u32 3624381080, V.int .u32 310598401, V.int .u32 607225278, V.int .u32 1426881987, V.int .u32 1925078388, V.int .u32 2162078206,
 V.int .u32 2614888103, V.int .u32 3248222580, V.int .u32 3835390401, V.int .u32 4022224774, V.int .u32 264347078, V.int .u32 604807628, V.int .u32 770255983, V.int .u32 1249150122, V.int .u32
 1555081692, V.int .u32 1996064986, V.int .u32 2554220882, V.int .u32 2821834349, V.int .u32 2952996808, V.int .u32 3210313671, V.int .u32 3336571891, V.int .u32 3584528711, V.int .u32 113926993, V.int
 .u32 338241895, V.int .u32 666307205, V.int .u32 773529912, V.int .u32 1294757372, V.int .u32 1396182291, V.int .u32 1695183700, V.int .u32 1986661051, V.int .u32 2177026350, V.int .u32 2456956037,
 V.int .u32 2730485921, V.int .u32 2820302411, V.int .u32 3259730800, V.int .u32 3345764771, V.int .u32 3516065817, V.int .u32 3600352804, V.int .u32 4094571909, V.int .u32 275423344, V.int .u32
 430227734, V.int .u32 506948616, V.int .u32 659060556, V.int .u32 883997877, V.int .u32 958139571, V.int .u32 1322822218, V.int .u32 1537002063, V.int .u32 1747873779, V.int .u32 1955562222, V.int
 .u32 2024104815, V.int .u32 2227730452, V.int .u32 2361852424, V.int .u32 2428436474, V.int .u32 2756734187, V.int .u32 3204031479, V.int .u32 3329325298])
theorem e211 (k m q0 q1 : Nat)  : runV C (k + 1) 211 [] = T211 (orc C k) k m q0 q1  := by kernel_rfl
theorem E211  {r : V} (h : T211 (orcE C) 0 0 0 0  = some r) : runE C 211 [] = some r := ofR (F := fun s => T211 (orc C s.k) s.k s.m 0 0 ) (fun k => e211 k k 0 0 ) (by
  unfold T211
  exact cC) h

noncomputable def T179l2 (O : Orc) (k m q0 q1 : Nat) (y1 : List V) (y2 : Int) (y3 : List V) (y4 : List V) (y5 : List V) (y6 : List V) : Option V := bif decide (y2 < 64) then must (inB y2 64) (PI.asInt
 .u32 y1[y2.toNat * 1]? fun x1 => PI.asInt .u32 y6[0]? fun x2 => PI.asInt .u32 y6[1]? fun x3 => PI.asInt .u32 y6[2]? fun x4 => PI.asInt .u32 y6[3]? fun x5 => PI.asInt .u32 y6[4]? fun x6 => PI.asInt
 .u32 y6[5]? fun x7 => PI.asInt .u32 y6[6]? fun x8 => PI.asInt .u32 y6[7]? fun x9 => must (inB y2 64) (PI.asInt .u32 y5[0 + y2.toNat * 1]? fun x10 => need (O.R 0 212 [V.agg [V.int .u32 x2, V.int .u32
 x3, V.int .u32 x4, V.int .u32 x5, V.int .u32 x6, V.int .u32 x7, V.int .u32 x8, V.int .u32 x9], V.int .u32 x10, V.int .u32 x1]) fun x11 => asTup (some x11) fun x12 => PI.asInt .u32 x12[0]? fun x13 =>
 PI.asInt .u32 x12[1]? fun x14 => PI.asInt .u32 x12[2]? fun x15 => PI.asInt .u32 x12[3]? fun x16 => PI.asInt .u32 x12[4]? fun x17 => PI.asInt .u32 x12[5]? fun x18 => PI.asInt .u32 x12[6]? fun x19 =>
 PI.asInt .u32 x12[7]? fun x20 => must ([V.int .u32 x13, V.int .u32 x14, V.int .u32 x15, V.int .u32 x16, V.int .u32 x17, V.int .u32 x18, V.int .u32 x19, V.int .u32 x20].length.beq 8 && true && (0 +
 [V.int .u32 x13, V.int .u32 x14, V.int .u32 x15, V.int .u32 x16, V.int .u32 x17, V.int .u32 x18, V.int .u32 x19, V.int .u32 x20].length).ble y6.length && flatB C 194 [V.int .u32 x13, V.int .u32 x14,
 V.int .u32 x15, V.int .u32 x16, V.int .u32 x17, V.int .u32 x18, V.int .u32 x19, V.int .u32 x20]) (O.L 0 179 2 [true, true, true, true, false, true] [] m [(2, V.ptr 0 0), (4, V.ptr 1 0), (5, V.ptr 2
 0), (11, V.ptr 3 0), (97, V.agg (renV.renL [] y1)), (98, V.int .i64 (IntKind.i64.wrap (y2 + 1)))] [Ob.box 194 y3 false, Ob.box 194 y4 false, Ob.box 215 y5 false, Ob.box 194 (splice y6 0 [V.int .u32
 x13, V.int .u32 x14, V.int .u32 x15, V.int .u32 x16, V.int .u32 x17, V.int .u32 x18, V.int .u32 x19, V.int .u32 x20]) false]))) else O.L 0 179 4 [true, true, true, true, true, false, true] [] k [(2,
 V.ptr 0 0), (4, V.ptr 1 0), (11, V.ptr 2 0), (109, V.int .i64 0)] [Ob.box 194 y3 false, Ob.box 194 y4 false, Ob.box 194 y6 false]
theorem e179l2 (k m q0 q1 : Nat) (y1 : List V) (y2 : Int) (y3 : List V) (y4 : List V) (y5 : List V) (y6 : List V) : runL C k 179 2 [true, true, true, true, false, true] [] (m + 1) [(2, V.ptr 0 0), (4,
 V.ptr 1 0), (5, V.ptr 2 0), (11, V.ptr 3 0), (97, V.agg y1), (98, V.int .i64 y2)] [Ob.box 194 y3 false, Ob.box 194 y4 false, Ob.box 215 y5 false, Ob.box 194 y6 false] = T179l2 (orc C k) k m q0 q1 y1
 y2 y3 y4 y5 y6 := by kernel_rfl
theorem E179l2 (y1 : List V) (y2 : Int) (y3 : List V) (y4 : List V) (y5 : List V) (y6 : List V) {r : V} (h : T179l2 (orcE C) 0 0 0 0 y1 y2 y3 y4 y5 y6 = some r) : loopE C 179 2 [true, true, true, true,
 false, true] [] [(2, V.ptr 0 0), (4, V.ptr 1 0), (5, V.ptr 2 0), (11, V.ptr 3 0), (97, V.agg y1), (98, V.int .i64 y2)] [Ob.box 194 y3 false, Ob.box 194 y4 false, Ob.box 215 y5 false, Ob.box 194 y6
 false] = some r := ofL (j := 0) (F := fun s => T179l2 (orc C s.k) s.k s.m 0 0 y1 y2 y3 y4 y5 y6) (fs0 fun k m => e179l2 k m 0 0 y1 y2 y3 y4 y5 y6) (by
  unfold T179l2
  repeat' first | with_reducible exact cC | with_reducible refine cN cR fun _ => ?_ | with_reducible refine cT fun _ => ?_ | with_reducible refine cI fun _ => ?_ | with_reducible refine cM ?_ | with_reducible refine cF ?_ ?_ | with_reducible refine cN cC fun _ => ?_ | with_reducible exact cR | exact cD0 gK | exact cD0 gM) h

noncomputable def T212 (O : Orc) (k m q0 q1 : Nat) (y1 : Int) (y2 : Int) (y3 : Int) (y4 : Int) (y5 : Int) (y6 : Int) (y7 : Int) (y8 : Int) (y9 : Int) (y10 : Int) : Option V := need (O.R 0 231 [V.int
 .u32 y5, V.int .i64 6]) fun x1 => asTup (some x1) fun x2 => PI.asInt .u32 x2[0]? fun x3 => need (O.R 0 231 [V.int .u32 y5, V.int .i64 11]) fun x4 => asTup (some x4) fun x5 => PI.asInt .u32 x5[0]? fun
 x6 => need (O.R 0 231 [V.int .u32 y5, V.int .i64 25]) fun x7 => asTup (some x7) fun x8 => PI.asInt .u32 x8[0]? fun x9 => need (O.R 0 231 [V.int .u32 y1, V.int .i64 2]) fun x10 => asTup (some x10) fun
 x11 => PI.asInt .u32 x11[0]? fun x12 => need (O.R 0 231 [V.int .u32 y1, V.int .i64 13]) fun x13 => asTup (some x13) fun x14 => PI.asInt .u32 x14[0]? fun x15 => need (O.R 0 231 [V.int .u32 y1, V.int
 .i64 22]) fun x16 => asTup (some x16) fun x17 => PI.asInt .u32 x17[0]? fun x18 => some (V.tup [V.int .u32 (IntKind.u32.wrap (IntKind.u32.wrap (IntKind.u32.wrap (IntKind.u32.wrap (IntKind.u32.wrap (y8
 + PI.bits IntKind.u32 (fun x1 x2 => x1 ^^^ x2) (PI.bits IntKind.u32 (fun x1 x2 => x1 ^^^ x2) x3 x6) x9) + PI.bits IntKind.u32 (fun x1 x2 => x1 ^^^ x2) (PI.bits IntKind.u32 (fun x1 x2 => x1 &&& x2) y5
 y6) (PI.bits IntKind.u32 (fun x1 x2 => x1 &&& x2) (PI.bits IntKind.u32 (fun x1 x2 => x1 ^^^ x2) 4294967295 y5) y7)) + y10) + y9) + IntKind.u32.wrap (PI.bits IntKind.u32 (fun x1 x2 => x1 ^^^ x2)
 (PI.bits IntKind.u32 (fun x1 x2 => x1 ^^^ x2) x12 x15) x18 + PI.bits IntKind.u32 (fun x1 x2 => x1 ^^^ x2) (PI.bits IntKind.u32 (fun x1 x2 => x1 ^^^ x2) (PI.bits IntKind.u32 (fun x1 x2 => x1 &&& x2) y1
 y2) (PI.bits IntKind.u32 (fun x1 x2 => x1 &&& x2) y1 y3)) (PI.bits IntKind.u32 (fun x1 x2 => x1 &&& x2) y2 y3)))), V.int .u32 y1, V.int .u32 y2, V.int .u32 y3, V.int .u32 (IntKind.u32.wrap (y4 +
 IntKind.u32.wrap (IntKind.u32.wrap (IntKind.u32.wrap (IntKind.u32.wrap (y8 + PI.bits IntKind.u32 (fun x1 x2 => x1 ^^^ x2) (PI.bits IntKind.u32 (fun x1 x2 => x1 ^^^ x2) x3 x6) x9) + PI.bits IntKind.u32
 (fun x1 x2 => x1 ^^^ x2) (PI.bits IntKind.u32 (fun x1 x2 => x1 &&& x2) y5 y6) (PI.bits IntKind.u32 (fun x1 x2 => x1 &&& x2) (PI.bits IntKind.u32 (fun x1 x2 => x1 ^^^ x2) 4294967295 y5) y7)) + y10) +
 y9))), V.int .u32 y5, V.int .u32 y6, V.int .u32 y7])
theorem e212 (k m q0 q1 : Nat) (y1 : Int) (y2 : Int) (y3 : Int) (y4 : Int) (y5 : Int) (y6 : Int) (y7 : Int) (y8 : Int) (y9 : Int) (y10 : Int) : runV C (k + 1) 212 [V.agg [V.int .u32 y1, V.int .u32 y2,
 V.int .u32 y3, V.int .u32 y4, V.int .u32 y5, V.int .u32 y6, V.int .u32 y7, V.int .u32 y8], V.int .u32 y9, V.int .u32 y10] = T212 (orc C k) k m q0 q1 y1 y2 y3 y4 y5 y6 y7 y8 y9 y10 := by kernel_rfl
theorem E212 (y1 : Int) (y2 : Int) (y3 : Int) (y4 : Int) (y5 : Int) (y6 : Int) (y7 : Int) (y8 : Int) (y9 : Int) (y10 : Int) {r : V} (h : T212 (orcE C) 0 0 0 0 y1 y2 y3 y4 y5 y6 y7 y8 y9 y10 = some r) :
 runE C 212 [V.agg [V.int .u32 y1, V.int .u32 y2, V.int .u32 y3, V.int .u32 y4, V.int .u32 y5, V.int .u32 y6, V.int .u32 y7, V.int .u32 y8], V.int .u32 y9, V.int .u32 y10] = some r := ofR (F := fun s
 => T212 (orc C s.k) s.k s.m 0 0 y1 y2 y3 y4 y5 y6 y7 y8 y9 y10) (fun k => e212 k k 0 0 y1 y2 y3 y4 y5 y6 y7 y8 y9 y10) (by
  unfold T212
  repeat' first | with_reducible exact cC | with_reducible refine cN cR fun _ => ?_ | with_reducible refine cT fun _ => ?_ | with_reducible refine cI fun _ => ?_ | with_reducible refine cN cC fun _ => ?_ | with_reducible exact cR) h

noncomputable def T179l3 (O : Orc) (k m q0 q1 : Nat) (y1 : Int) (y2 : List V) (y3 : List V) (y4 : List V) : Option V := bif decide (y1 < 8) then must (inB y1 8) (PI.asInt .u32 y4[0 + y1.toNat * 1]? fun
 x1 => must (inB y1 8) (PI.asInt .u32 y2[0 + y1.toNat * 1]? fun x2 => must (inB y1 8) (must ((V.int .u32 (IntKind.u32.wrap (x1 + x2))).solid && true && (0 + y1.toNat * 1 + 1).ble y4.length && flatB C
 194 [V.int .u32 (IntKind.u32.wrap (x1 + x2))]) (O.L 0 179 4 [true, true, true, true, true, false, true] [] m [(2, V.ptr 0 0), (4, V.ptr 1 0), (11, V.ptr 2 0), (109, V.int .i64 (IntKind.i64.wrap (y1 +
 1)))] [Ob.box 194 y2 false, Ob.box 194 y3 false, Ob.box 194 (splice y4 (0 + y1.toNat * 1) [V.int .u32 (IntKind.u32.wrap (x1 + x2))]) false])))) else PI.asInt .u32 y4[0]? fun x3 => PI.asInt .u32 y4[1]?
 fun x4 => PI.asInt .u32 y4[2]? fun x5 => PI.asInt .u32 y4[3]? fun x6 => PI.asInt .u32 y4[4]? fun x7 => PI.asInt .u32 y4[5]? fun x8 => PI.asInt .u32 y4[6]? fun x9 => PI.asInt .u32 y4[7]? fun x10 =>
 must ([V.int .u32 x3, V.int .u32 x4, V.int .u32 x5, V.int .u32 x6, V.int .u32 x7, V.int .u32 x8, V.int .u32 x9, V.int .u32 x10].length.beq 8 && true && (0 + [V.int .u32 x3, V.int .u32 x4, V.int .u32
 x5, V.int .u32 x6, V.int .u32 x7, V.int .u32 x8, V.int .u32 x9, V.int .u32 x10].length).ble y3.length && flatB C 194 [V.int .u32 x3, V.int .u32 x4, V.int .u32 x5, V.int .u32 x6, V.int .u32 x7, V.int
 .u32 x8, V.int .u32 x9, V.int .u32 x10]) (some (V.tup [V.int .u32 x3, V.int .u32 x4, V.int .u32 x5, V.int .u32 x6, V.int .u32 x7, V.int .u32 x8, V.int .u32 x9, V.int .u32 x10]))
theorem e179l3 (k m q0 q1 : Nat) (y1 : Int) (y2 : List V) (y3 : List V) (y4 : List V) : runL C k 179 4 [true, true, true, true, true, false, true] [] (m + 1) [(2, V.ptr 0 0), (4, V.ptr 1 0), (11, V.ptr
 2 0), (109, V.int .i64 y1)] [Ob.box 194 y2 false, Ob.box 194 y3 false, Ob.box 194 y4 false] = T179l3 (orc C k) k m q0 q1 y1 y2 y3 y4 := by kernel_rfl
theorem E179l3 (y1 : Int) (y2 : List V) (y3 : List V) (y4 : List V) {r : V} (h : T179l3 (orcE C) 0 0 0 0 y1 y2 y3 y4 = some r) : loopE C 179 4 [true, true, true, true, true, false, true] [] [(2, V.ptr
 0 0), (4, V.ptr 1 0), (11, V.ptr 2 0), (109, V.int .i64 y1)] [Ob.box 194 y2 false, Ob.box 194 y3 false, Ob.box 194 y4 false] = some r := ofL (j := 0) (F := fun s => T179l3 (orc C s.k) s.k s.m 0 0 y1
 y2 y3 y4) (fs0 fun k m => e179l3 k m 0 0 y1 y2 y3 y4) (by
  unfold T179l3
  repeat' first | with_reducible exact cC | with_reducible refine cI fun _ => ?_ | with_reducible refine cM ?_ | with_reducible refine cF ?_ ?_ | exact cD0 gM) h

noncomputable def T231 (O : Orc) (k m q0 q1 : Nat) (y1 : Int) (y2 : Int) : Option V := need (O.R 0 210 [V.int .u32 y1, V.int .i64 (IntKind.i64.wrap (0 - y2))]) fun x1 => asTup (some x1) fun x2 =>
 PI.asInt .u32 x2[0]? fun x3 => some (V.tup [V.int .u32 x3])
theorem e231 (k m q0 q1 : Nat) (y1 : Int) (y2 : Int) : runV C (k + 1) 231 [V.int .u32 y1, V.int .i64 y2] = T231 (orc C k) k m q0 q1 y1 y2 := by kernel_rfl
theorem E231 (y1 : Int) (y2 : Int) {r : V} (h : T231 (orcE C) 0 0 0 0 y1 y2 = some r) : runE C 231 [V.int .u32 y1, V.int .i64 y2] = some r := ofR (F := fun s => T231 (orc C s.k) s.k s.m 0 0 y1 y2) (fun
 k => e231 k k 0 0 y1 y2) (by
  unfold T231
  repeat' first | with_reducible exact cC | with_reducible refine cN cR fun _ => ?_ | with_reducible refine cT fun _ => ?_ | with_reducible refine cI fun _ => ?_ | with_reducible refine cN cC fun _ => ?_ | with_reducible exact cR) h

end Go.Proofs.YtehpmolckdmibaaGreat.EqP

