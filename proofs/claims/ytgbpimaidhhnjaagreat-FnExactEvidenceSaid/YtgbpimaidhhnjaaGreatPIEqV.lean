/-
  The functions of a table, as the interpreter tells them. Printed by a program.
-/
import Derived.Test.YtgbpimaidhhnjaaGreatPIEqVx
namespace Go.Proofs.YtgbpimaidhhnjaaGreat.EqV
open Go Go.PI
set_option maxRecDepth 100000
set_option maxHeartbeats 4000000
set_option linter.unusedVariables false
set_option linter.unusedSimpArgs false

noncomputable def T80l1 (O : Orc) (k m q0 q1 : Nat) (y1 : Nat) (y2 : List V) (y3 y4 y5 y6 : Int) (y7 : Nat) (y8 : List V) (y9 : Nat) (y10 : List V) (y11 : Nat) (y12 : List V) (y13 : Nat) (y14 : List V) : Option V := bif decide (y4 < (↑y13 : Int)) then must (inB y4 y13) (PI.asInt .i64 y14[y4.toNat * 6 + 0]? fun x1 => must (inB x1 y1) (PI.asInt .i64 y2[x1.toNat * 2 + 1]? fun
 x2 => O.L 0 80 0 [true, true, false, true] [] m [(0, V.sl y1 y2), (3, V.ptr 0 0), (5, V.int .i64 (IntKind.i64.wrap (y3 + x2))), (6, V.int .i64 (IntKind.i64.wrap (y4 + 1)))] [Ob.box 46 [V.int .i64 y5,
 V.int .i64 y6, V.sl y7 y8, V.sl y9 y10, V.sl y11 y12, V.sl y13 y14] false])) else some (V.tup [V.int .i64 y3])
theorem E80l1 (y1 y2 y3 y4 y5 y6 y7 y8 y9 y10 y11 y12 y13 y14) {r : V} (h :
 T80l1 (orcE C) 0 0 0 0 y1 y2 y3 y4 y5 y6 y7 y8 y9 y10 y11 y12 y13 y14 = some r) : loopE C 80 0 [true, true, false, true] [] [(0, V.sl y1 y2), (3, V.ptr 0 0), (5, V.int .i64 y3), (6, V.int .i64 y4)]
 [Ob.box 46 [V.int .i64 y5, V.int .i64 y6, V.sl y7 y8, V.sl y9 y10, V.sl y11 y12, V.sl y13 y14] false] = some r := ofL (j := 0) (F := fun s => T80l1 (orc C s.k) s.k s.m 0 0 y1 y2 y3 y4 y5 y6 y7 y8 y9
 y10 y11 y12 y13 y14) (fs0 fun _ _ => by kernel_rfl) (by
  unfold T80l1
  repeat' first | (with_reducible first | exact cC | refine cI fun _ => ?_ | refine cM ?_ | refine cF ?_ ?_) | exact cD0 gM) h

noncomputable def T81l1 (O : Orc) (k m q0 q1 : Nat) (y1 : Nat) (y2 : List V) (y3 y4 : Int) : Option V := bif decide (y4 < (↑y1 : Int)) then must (inB y4 y1) (PI.asInt .i64 y2[y4.toNat * 2 + 1]?
 fun x1 => O.L 0 81 0 [true, true, false, true] [] m [(0, V.sl y1 y2), (3, V.int .i64 (IntKind.i64.wrap (y3 + x1))), (4, V.int .i64 (IntKind.i64.wrap (y4 + 1)))] []) else some (V.tup [V.int .i64 y3])
theorem E81l1 (y1 y2 y3 y4) {r : V} (h : T81l1 (orcE C) 0 0 0 0 y1 y2 y3 y4 = some r) : loopE C 81 0 [true, true, false, true] [] [(0, V.sl y1 y2), (3, V.int .i64 y3),
 (4, V.int .i64 y4)] [] = some r := ofL (j := 0) (F := fun s => T81l1 (orc C s.k) s.k s.m 0 0 y1 y2 y3 y4) (fs0 fun _ _ => by kernel_rfl) (by
  unfold T81l1
  repeat' first | (with_reducible first | exact cC | refine cI fun _ => ?_ | refine cM ?_ | refine cF ?_ ?_) | exact cD0 gM) h

noncomputable def T82l1 (O : Orc) (k m q0 q1 : Nat) (y1 : Nat) (y2 : List V) (y3 : Nat) (y4 : List V) (y5 y6 y7 y8 : Int) (y9 : Nat) (y10 : List V) (y11 : Nat) (y12 : List V) (y13 : Nat) (y14 : List V) (y15 : Nat) (y16 : List V) : Option V := bif decide (y6 < (↑y15 : Int)) then must (inB y6 y15) (PI.asInt .i64 y16[y6.toNat * 6 + 0]? fun x1 => must (inB x1 y1) (must (decide
 (x1.toNat * 2 + 0 < y2.length)) (O.L 0 82 2 [true, true, false, true, false, true, false, false, true, true] [m] k [(0, V.sl y1 y2), (1, V.sl y3 y4), (5, V.ptr 0 0), (7, V.int .i64 y5), (8, V.int .i64
 y6), (9, V.prj y2 (x1.toNat * 2 + 0)), (10, V.int .i64 0)] [Ob.box 46 [V.int .i64 y7, V.int .i64 y8, V.sl y9 y10, V.sl y11 y12, V.sl y13 y14, V.sl y15 y16] false]))) else some (V.tup [V.int .i64 y5])
theorem E82l1 (y1 y2 y3 y4 y5 y6 y7 y8 y9 y10 y11 y12 y13 y14 y15 y16) {r : V} (h : T82l1 (orcE C) 0 0 0 0 y1 y2 y3 y4 y5 y6 y7 y8 y9 y10 y11 y12 y13 y14 y15 y16 = some r) : loopE C 82 0 [true, true, false, true] [] [(0, V.sl y1 y2), (1, V.sl y3 y4), (5,
 V.ptr 0 0), (7, V.int .i64 y5), (8, V.int .i64 y6)] [Ob.box 46 [V.int .i64 y7, V.int .i64 y8, V.sl y9 y10, V.sl y11 y12, V.sl y13 y14, V.sl y15 y16] false] = some r := ofL (j := 0) (F := fun s =>
 T82l1 (orc C s.k) s.k s.m 0 0 y1 y2 y3 y4 y5 y6 y7 y8 y9 y10 y11 y12 y13 y14 y15 y16) (fs0 fun _ _ => by kernel_rfl) (by
  unfold T82l1
  repeat' first | (with_reducible first | exact cC | refine cI fun _ => ?_ | refine cM ?_ | refine cF ?_ ?_) | exact cD1 gK gM) h

noncomputable def T84l1 (O : Orc) (k m q0 q1 : Nat) (y1 : Nat) (y2 : List V) (y3 : Int) (y4 : Nat) (y5 : List V) : Option V := bif decide (y3 < (↑y1 : Int)) then must (inB y3 y1) (must (decide
 (y3.toNat * 2 + 0 < y2.length)) (must (inB y3 y1) (PI.asInt .i64 y2[y3.toNat * 2 + 1]? fun x1 => asSl y2[y3.toNat * 2 + 0]? fun x2 x3 => must (decide (x3.length = x2 * 1)) (must (true && (0 + x2).ble
 140737488355328 && ((0 + x2) * 1).ble 140737488355328) (must (true && (y4 + 1).ble 140737488355328 && ((y4 + 1) * 32).ble 140737488355328) (O.L 0 84 0 [true, true, false, true] [] m [(0, V.sl y1 y2),
 (3, V.ref 0), (4, V.int .i64 (IntKind.i64.wrap (y3 + 1)))] [Ob.row 78 (y4 + 1) (y5 ++ [V.sl (0 + x2) x3, V.int .i64 x1]) false])))))) else some (V.tup [V.sl y4 y5])
theorem E84l1 (y1 y2 y3 y4 y5) {r : V} (h : T84l1 (orcE C) 0 0 0 0 y1 y2 y3 y4 y5 = some r) : loopE C 84 0 [true, true, false, true] [] [(0, V.sl y1 y2), (3,
 V.ref 0), (4, V.int .i64 y3)] [Ob.row 78 y4 y5 false] = some r := ofL (j := 0) (F := fun s => T84l1 (orc C s.k) s.k s.m 0 0 y1 y2 y3 y4 y5) (fs0 fun _ _ => by kernel_rfl) (by
  unfold T84l1
  repeat' first | (with_reducible first | exact cC | refine cI fun _ => ?_ | refine cM ?_ | refine cF ?_ ?_ | refine cL fun _ _ => ?_) | exact cD0 gM) h

noncomputable def T85l1 (O : Orc) (k m q0 q1 : Nat) (y1 : Nat) (y2 : List V) (y3 : Int) (y4 : Nat) (y5 : List V) : Option V := bif decide (y3 < (↑y1 : Int)) then must (inB y3 y1) (must (decide
 (y3.toNat * 1 < y2.length)) (asSl y2[y3.toNat * 1]? fun x1 x2 => must (decide (x2.length = x1 * 1)) (must (true && (0 + x1).ble 140737488355328 && ((0 + x1) * 1).ble 140737488355328) (must (true &&
 (y4 + 1).ble 140737488355328 && ((y4 + 1) * 24).ble 140737488355328) (O.L 0 85 0 [true, true, false, true] [] m [(0, V.sl y1 y2), (3, V.ref 0), (4, V.int .i64 (IntKind.i64.wrap (y3 + 1)))] [Ob.row 22
 (y4 + 1) (y5 ++ [V.sl (0 + x1) x2]) false]))))) else some (V.tup [V.sl y4 y5])
theorem E85l1 (y1 y2 y3 y4 y5) {r : V} (h : T85l1 (orcE C) 0 0 0 0 y1 y2 y3 y4 y5 = some r) : loopE C 85 0 [true, true, false, true] [] [(0, V.sl y1 y2), (3,
 V.ref 0), (4, V.int .i64 y3)] [Ob.row 22 y4 y5 false] = some r := ofL (j := 0) (F := fun s => T85l1 (orc C s.k) s.k s.m 0 0 y1 y2 y3 y4 y5) (fs0 fun _ _ => by kernel_rfl) (by
  unfold T85l1
  repeat' first | (with_reducible first | exact cC | refine cM ?_ | refine cF ?_ ?_ | refine cL fun _ _ => ?_) | exact cD0 gM) h

noncomputable def T119 (O : Orc) (k m q0 q1 : Nat) (y1 : Nat) (y2 : List V) : Option V := need (O.R 0 92 [V.sl y1 y2, V.fn 143 []]) fun x1 => asTup (some x1) fun x2 => PI.asBool x2[0]? fun x3 => some
 (V.tup [V.bool !x3])
theorem E119 (y1 y2) {r : V} (h : T119 (orcE C) 0 0 0 0 y1 y2 = some r) : runE C 119 [V.sl y1 y2] = some r := ofR (j := 1) (F := fun s => T119 (orc C s.k) s.k s.m 0 0 y1 y2) (fun _ =>
 by kernel_rfl) (by
  unfold T119
  repeat' first | (with_reducible first | exact cC | refine cN cR fun _ => ?_ | refine cT fun _ => ?_ | refine cB fun _ => ?_ | refine cN cC fun _ => ?_ | exact cR)) h

noncomputable def T89l1 (O : Orc) (k m q0 q1 : Nat) (y1 : Nat) (y2 : List V) (y3 : Nat) (y4 : List V) (y5 y6 : Int) : Option V := bif decide (y6 < y5) then must (inB y6 y3) (asSl y4[y6.toNat *
 2]? fun x1 x2 => PI.asInt .i64 y4[y6.toNat * 2 + 1]? fun x3 => need (O.R 0 94 [V.sl x1 x2]) fun x4 => asTup (some x4) fun x5 => PI.asBool x5[0]? fun x6 => bif !x6 then some (V.tup [V.int .i64 1]) else
 need (O.R 0 91 [V.int .i64 x3, V.int .i64 1, V.int .i64 1000]) fun x7 => asTup (some x7) fun x8 => PI.asBool x8[0]? fun x9 => bif !x9 then some (V.tup [V.int .i64 3]) else must (decide (0 ≤ y6) &&
 decide (y6 ≤ (↑y1 : Int))) (need (O.R 0 120 [V.sl (y6.toNat - 0) (List.take ((y6.toNat - 0) * 2) (List.drop 0 y2)), V.sl x1 x2]) fun x10 => asTup (some x10) fun x11 => PI.asInt .i64 x11[0]? fun x12 =>
 bif decide (x12 ≥ 0) then some (V.tup [V.int .i64 7]) else O.L 0 89 1 [true, true, false, true] [] m [(0, V.sl y1 y2), (13, V.sl y3 y4), (14, V.int .i64 y5), (15, V.int .i64 (IntKind.i64.wrap (y6 +
 1)))] [])) else some (V.tup [V.int .i64 0])
theorem E89l1 (y1 y2 y3 y4 y5 y6) {r : V} (h : T89l1 (orcE C) 0 0 0 0 y1 y2 y3 y4 y5 y6 = some r) : loopE C 89 1 [true, true, false, true] [] [(0,
 V.sl y1 y2), (13, V.sl y3 y4), (14, V.int .i64 y5), (15, V.int .i64 y6)] [] = some r := ofL (j := 0) (F := fun s => T89l1 (orc C s.k) s.k s.m 0 0 y1 y2 y3 y4 y5 y6) (fs0 fun _ _ => by kernel_rfl) (by
  unfold T89l1
  repeat' first | (with_reducible first | exact cC | refine cN cR fun _ => ?_ | refine cT fun _ => ?_ | refine cI fun _ => ?_ | refine cM ?_ | refine cF ?_ ?_ | refine cB fun _ => ?_ | refine cL fun _ _ => ?_ | refine cN cC fun _ => ?_ | exact cR) | exact cD0 gM) h

noncomputable def T90l1 (O : Orc) (k m q0 q1 : Nat) (y1 : Nat) (y2 : List V) (y3 y4 : Int) (y5 : Nat) (y6 : List V) : Option V := bif decide (y4 < y3) then must (inB y4 y1) (asSl y2[y4.toNat *
 2]? fun x1 x2 => PI.asInt .i64 y2[y4.toNat * 2 + 1]? fun x3 => need (O.R 0 98 [V.int .i64 x3]) fun x4 => asTup (some x4) fun x5 => asSl x5[0]? fun x6 x7 => must (true && (y5 + 2).ble 140737488355328
 && ((y5 + 2) * 24).ble 140737488355328) (O.L 0 90 0 [true, true, false, true] [] m [(3, V.ref 0), (7, V.sl y1 y2), (8, V.int .i64 y3), (9, V.int .i64 (IntKind.i64.wrap (y4 + 1)))] [Ob.row 22 (y5 + 2)
 (y6 ++ [V.sl x1 x2, V.sl x6 x7]) false])) else need (O.R 0 97 [V.sl y5 y6]) fun x8 => asTup (some x8) fun x9 => asSl x9[0]? fun x10 x11 => need (O.R 0 96 [V.str { data := #[(115 : UInt8), (101 :
 UInt8), (116 : UInt8)] }, V.sl 1 [V.sl x10 x11]]) fun x12 => asTup (some x12) fun x13 => asOsl x13[0]? fun x14 x15 => some (V.tup [V.sl x14 x15])
theorem E90l1 (y1 y2 y3 y4 y5 y6) {r : V} (h : T90l1 (orcE C) 0 0 0 0 y1 y2 y3 y4 y5 y6 = some r) : loopE C 90 0 [true, true, false, true] [] [(3,
 V.ref 0), (7, V.sl y1 y2), (8, V.int .i64 y3), (9, V.int .i64 y4)] [Ob.row 22 y5 y6 false] = some r := ofL (j := 0) (F := fun s => T90l1 (orc C s.k) s.k s.m 0 0 y1 y2 y3 y4 y5 y6) (fs0 fun _ _ => by
 kernel_rfl) (by
  unfold T90l1
  repeat' first | (with_reducible first | exact cC | refine cN cR fun _ => ?_ | refine cT fun _ => ?_ | refine cI fun _ => ?_ | refine cM ?_ | refine cF ?_ ?_ | refine cL fun _ _ => ?_ | refine cO fun _ _ => ?_ | refine cN cC fun _ => ?_ | exact cR) | exact cD0 gM) h

noncomputable def T121 (O : Orc) (k m q0 q1 : Nat) (y1 : Nat) (y2 : List V) : Option V := O.L 0 121 0 [true, false, true] [] k [(0, V.sl y1 y2), (1, V.fn 93 []), (7, V.int .i64 (↑y1 : Int)), (8, V.int
 .i64 0)] []
theorem E121 (y1 y2) {r : V} (h : T121 (orcE C) 0 0 0 0 y1 y2 = some r) : runE C 121 [V.sl y1 y2, V.fn 93 []] = some r := ofR (j := 1) (F := fun s => T121 (orc C s.k) s.k s.m 0 0 y1
 y2) (fun _ => by kernel_rfl) (by
  unfold T121
  repeat' first | with_reducible exact cC | exact cD0 gK) h

noncomputable def T48l1 (O : Orc) (k m q0 q1 : Nat) (y1 : Nat) (y2 : List V) (y3 : Int) (y4 : Nat) (y5 : List V) (y6 : Nat) (y7 : List V) (y8 y9 : Int) : Option V := bif decide (y9 < y8) then
 must (inB y9 y6) (PI.asInt .i64 y7[y9.toNat * 6]? fun x1 => PI.asInt .i64 y7[y9.toNat * 6 + 1]? fun x2 => asSl y7[y9.toNat * 6 + 1 + 1]? fun x3 x4 => PI.asInt .i64 y7[y9.toNat * 6 + 1 + 1 + 1]? fun x5
 => PI.asInt .i64 y7[y9.toNat * 6 + 1 + 1 + 1 + 1]? fun x6 => asSl y7[y9.toNat * 6 + 1 + 1 + 1 + 1 + 1]? fun x7 x8 => need (O.R 0 91 [V.int .i64 x1, V.int .i64 (IntKind.i64.wrap (y3 + 1)), V.int .i64
 (IntKind.i64.wrap ((↑y1 : Int) - 1))]) fun x9 => asTup (some x9) fun x10 => PI.asBool x10[0]? fun x11 => bif !x11 then some (V.tup [V.int .i64 3]) else must (inB x1 y1) (must (decide (x1.toNat * 2 + 0
 < y2.length)) (asSl y2[x1.toNat * 2 + 0]? fun x12 x13 => need (O.R 0 95 [V.sl x12 x13, V.sl y4 y5, V.agg [V.int .i64 x2, V.sl x3 x4, V.int .i64 x5, V.int .i64 x6, V.sl x7 x8]]) fun x14 => asTup (some
 x14) fun x15 => PI.asBool x15[0]? fun x16 => bif !x16 then some (V.tup [V.int .i64 6]) else O.L 0 48 1 [true, true, true, true, true, false, true] [] m [(0, V.sl y1 y2), (7, V.int .i64 x1), (8, V.sl
 y4 y5), (39, V.sl y6 y7), (40, V.int .i64 y8), (41, V.int .i64 (IntKind.i64.wrap (y9 + 1)))] []))) else some (V.tup [V.int .i64 0])
theorem E48l1 (y1 y2 y3 y4 y5 y6 y7 y8 y9) {r : V} (h : T48l1 (orcE C) 0 0 0 0 y1 y2 y3 y4 y5 y6 y7 y8 y9 = some r) :
 loopE C 48 1 [true, true, true, true, true, false, true] [] [(0, V.sl y1 y2), (7, V.int .i64 y3), (8, V.sl y4 y5), (39, V.sl y6 y7), (40, V.int .i64 y8), (41, V.int .i64 y9)] [] = some r := ofL (j :=
 0) (F := fun s => T48l1 (orc C s.k) s.k s.m 0 0 y1 y2 y3 y4 y5 y6 y7 y8 y9) (fs0 fun _ _ => by kernel_rfl) (by
  unfold T48l1
  repeat' first | (with_reducible first | exact cC | refine cN cR fun _ => ?_ | refine cT fun _ => ?_ | refine cI fun _ => ?_ | refine cM ?_ | refine cF ?_ ?_ | refine cB fun _ => ?_ | refine cL fun _ _ => ?_ | refine cN cC fun _ => ?_ | exact cR) | exact cD0 gM) h

noncomputable def T98 (O : Orc) (k m q0 q1 : Nat) (y1 : Int) : Option V := O.L 0 98 0 [true, true, false, true] [] k [(0, V.int .i64 y1), (3, V.ref 0), (4, V.int .i64 6)] [Ob.row 5 7 [V.int .u8 0,
 V.int .u8 0, V.int .u8 0, V.int .u8 0, V.int .u8 0, V.int .u8 0, V.int .u8 0] false]
theorem E98 (y1) {r : V} (h : T98 (orcE C) 0 0 0 0 y1 = some r) : runE C 98 [V.int .i64 y1] = some r := ofR (j := 1) (F := fun s => T98 (orc C s.k) s.k s.m 0 0 y1) (fun _ => by kernel_rfl) (by
  unfold T98
  repeat' first | with_reducible exact cC | exact cD0 gK) h

noncomputable def T97 (O : Orc) (k m q0 q1 : Nat) (y1 : Nat) (y2 : List V) : Option V := need (O.R 0 127 [V.sl y1 y2]) fun x1 => asTup (some x1) fun x2 => asSl x2[0]? fun x3 x4 => PI.asBool x2[1]? fun
 x5 => some (V.tup [V.sl x3 x4])
theorem E97 (y1 y2) {r : V} (h : T97 (orcE C) 0 0 0 0 y1 y2 = some r) : runE C 97 [V.sl y1 y2] = some r := ofR (j := 1) (F := fun s => T97 (orc C s.k) s.k s.m 0 0 y1 y2) (fun _ => by
 kernel_rfl) (by
  unfold T97
  repeat' first | (with_reducible first | exact cC | refine cN cR fun _ => ?_ | refine cT fun _ => ?_ | refine cB fun _ => ?_ | refine cL fun _ _ => ?_ | refine cN cC fun _ => ?_ | exact cR)) h

noncomputable def T96 (O : Orc) (k m q0 q1 : Nat) (y1 : ByteArray) (y2 : Nat) (y3 : List V) : Option V := must (y1.size.ble 140737488355328) (must (decide (y3.length = y2 * 1)) (must (true && (2 +
 y2).ble 140737488355328 && ((2 + y2) * 24).ble 140737488355328) (need (O.R 0 126 [V.sl (2 + y2) (V.sl 1 [V.int .u8 (IntKind.u8.wrap (↑y1.size : Int))] :: V.sl y1.size (bytesV y1.data.toList) :: y3)])
 fun x1 => asTup (some x1) fun x2 => asOsl x2[0]? fun x3 x4 => must (false || x4.all flatV) (some (V.tup [V.osl x3 x4])))))
theorem E96 (y1 y2 y3) {r : V} (h : T96 (orcE C) 0 0 0 0 y1 y2 y3 = some r) : runE C 96 [V.str y1, V.sl y2 y3] = some r := ofR (j := 1) (F := fun s => T96 (orc C s.k) s.k
 s.m 0 0 y1 y2 y3) (fun _ => by kernel_rfl) (by
  unfold T96
  repeat' first | (with_reducible first | exact cC | refine cN cR fun _ => ?_ | refine cT fun _ => ?_ | refine cM ?_ | refine cO fun _ _ => ?_ | refine cN cC fun _ => ?_ | exact cR)) h

noncomputable def T66 (O : Orc) (k m q0 q1 : Nat) (y1 : Nat) (y2 : List V) (y3 y4 : Int) (y5 : Nat) (y6 : List V) (y7 : Nat) (y8 : List V) (y9 : Nat) (y10 : List V) (y11 : Nat) (y12 : List V) :
 Option V := need (O.R 0 110 [V.sl y1 y2, V.agg [V.int .i64 y3, V.int .i64 y4, V.sl y5 y6, V.sl y7 y8, V.sl y9 y10, V.sl y11 y12]]) fun x1 => asTup (some x1) fun x2 => PI.asInt .i64 x2[0]? fun x3 =>
 need (O.R 0 100 [V.sl y1 y2]) fun x4 => asTup (some x4) fun x5 => PI.asInt .i64 x5[0]? fun x6 => some (V.tup [V.bool (decide (IntKind.i64.wrap (3 * x3) > IntKind.i64.wrap (2 * x6)))])
theorem E66 (y1 y2 y3 y4 y5 y6 y7 y8 y9 y10 y11 y12) {r : V} (h : T66 (orcE C) 0 0 0 0 y1 y2
 y3 y4 y5 y6 y7 y8 y9 y10 y11 y12 = some r) : runE C 66 [V.sl y1 y2, V.agg [V.int .i64 y3, V.int .i64 y4, V.sl y5 y6, V.sl y7 y8, V.sl y9 y10, V.sl y11 y12]] = some r := ofR (j := 1) (F := fun s => T66
 (orc C s.k) s.k s.m 0 0 y1 y2 y3 y4 y5 y6 y7 y8 y9 y10 y11 y12) (fun _ => by kernel_rfl) (by
  unfold T66
  repeat' first | (with_reducible first | exact cC | refine cN cR fun _ => ?_ | refine cT fun _ => ?_ | refine cI fun _ => ?_ | refine cN cC fun _ => ?_ | exact cR)) h

noncomputable def T99 (O : Orc) (k m q0 q1 : Nat) (y1 : Nat) (y2 : List V) (y3 : Nat) (y4 : List V) (y5 y6 : Int) (y7 : Nat) (y8 : List V) (y9 : Nat) (y10 : List V) (y11 : Nat) (y12 : List V) (y13 : Nat) (y14 : List V) : Option V := O.L 0 99 0 [true, true, false, true] [] k [(0, V.sl y1 y2), (1, V.sl y3 y4), (7, V.int .i64 0), (12, V.sl y13 y14), (13, V.int .i64 (↑y13 : Int)), (14, V.int
 .i64 0)] []
theorem E99 (y1 y2 y3 y4 y5 y6 y7 y8 y9 y10 y11 y12 y13 y14) {r : V} (h :
 T99 (orcE C) 0 0 0 0 y1 y2 y3 y4 y5 y6 y7 y8 y9 y10 y11 y12 y13 y14 = some r) : runE C 99 [V.sl y1 y2, V.sl y3 y4, V.agg [V.int .i64 y5, V.int .i64 y6, V.sl y7 y8, V.sl y9 y10, V.sl y11 y12, V.sl y13
 y14]] = some r := ofR (j := 1) (F := fun s => T99 (orc C s.k) s.k s.m 0 0 y1 y2 y3 y4 y5 y6 y7 y8 y9 y10 y11 y12 y13 y14) (fun _ => by kernel_rfl) (by
  unfold T99
  repeat' first | with_reducible exact cC | exact cD0 gK) h

noncomputable def T100 (O : Orc) (k m q0 q1 : Nat) (y1 : Nat) (y2 : List V) : Option V := O.L 0 100 0 [true, true, false, true] [] k [(3, V.int .i64 0), (6, V.sl y1 y2), (7, V.int .i64 (↑y1 : Int)),
 (8, V.int .i64 0)] []
theorem E100 (y1 y2) {r : V} (h : T100 (orcE C) 0 0 0 0 y1 y2 = some r) : runE C 100 [V.sl y1 y2] = some r := ofR (j := 1) (F := fun s => T100 (orc C s.k) s.k s.m 0 0 y1 y2) (fun _ =>
 by kernel_rfl) (by
  unfold T100
  repeat' first | with_reducible exact cC | exact cD0 gK) h

noncomputable def T101 (O : Orc) (k m q0 q1 : Nat) (y1 y2 : Int) (y3 : Nat) (y4 : List V) (y5 : Nat) (y6 : List V) (y7 : Nat) (y8 : List V) : Option V := both (both (need (O.R 0 128 [V.sl y3
 y4]) fun x1 => asTup (some x1) fun x2 => asOsl x2[0]? fun x3 x4 => both (both (need (O.R 0 128 [V.sl y5 y6]) fun x5 => asTup (some x5) fun x6 => asOsl x6[0]? fun x7 x8 => need (O.R 0 128 [V.sl y7 y8])
 fun x9 => asTup (some x9) fun x10 => asOsl x10[0]? fun x11 x12 => must (false || x4.all flatV) (must (false || x8.all flatV) (must (false || x12.all flatV) (some (V.tup [V.int .i64 y1, V.int .i64 y2,
 V.osl x3 x4, V.osl x7 x8, V.osl x11 x12]))))) (need (O.R 0 128 [V.sl y5 y6]) fun x13 => asTup (some x13) fun x14 => asOsl x14[0]? fun x15 x16 => need (O.R 0 128 [V.sl y7 y8]) fun x17 => asTup (some
 x17) fun x18 => asOsl x18[0]? fun x19 x20 => must (false || x4.all flatV) (must (false || x16.all flatV) (must (false || x20.all flatV) (some (V.tup [V.int .i64 y1, V.int .i64 y2, V.osl x3 x4, V.osl
 x15 x16, V.osl x19 x20])))))) (need (O.R 0 128 [V.sl y5 y6]) fun x21 => asTup (some x21) fun x22 => asOsl x22[0]? fun x23 x24 => need (O.R 0 128 [V.sl y7 y8]) fun x25 => asTup (some x25) fun x26 =>
 asOsl x26[0]? fun x27 x28 => must (false || x4.all flatV) (must (false || x24.all flatV) (must (false || x28.all flatV) (some (V.tup [V.int .i64 y1, V.int .i64 y2, V.osl x3 x4, V.osl x23 x24, V.osl
 x27 x28])))))) (both (both (need (O.R 0 128 [V.sl y3 y4]) fun x29 => asTup (some x29) fun x30 => asOsl x30[0]? fun x31 x32 => both (need (O.R 0 128 [V.sl y5 y6]) fun x33 => asTup (some x33) fun x34 =>
 asOsl x34[0]? fun x35 x36 => need (O.R 0 128 [V.sl y7 y8]) fun x37 => asTup (some x37) fun x38 => asOsl x38[0]? fun x39 x40 => must (false || x32.all flatV) (must (false || x36.all flatV) (must (false
 || x40.all flatV) (some (V.tup [V.int .i64 y1, V.int .i64 y2, V.osl x31 x32, V.osl x35 x36, V.osl x39 x40]))))) (need (O.R 0 128 [V.sl y5 y6]) fun x41 => asTup (some x41) fun x42 => asOsl x42[0]? fun
 x43 x44 => need (O.R 0 128 [V.sl y7 y8]) fun x45 => asTup (some x45) fun x46 => asOsl x46[0]? fun x47 x48 => must (false || x32.all flatV) (must (false || x44.all flatV) (must (false || x48.all flatV)
 (some (V.tup [V.int .i64 y1, V.int .i64 y2, V.osl x31 x32, V.osl x43 x44, V.osl x47 x48])))))) (need (O.R 0 128 [V.sl y3 y4]) fun x49 => asTup (some x49) fun x50 => asOsl x50[0]? fun x51 x52 => need
 (O.R 0 128 [V.sl y5 y6]) fun x53 => asTup (some x53) fun x54 => asOsl x54[0]? fun x55 x56 => need (O.R 0 128 [V.sl y7 y8]) fun x57 => asTup (some x57) fun x58 => asOsl x58[0]? fun x59 x60 => must
 (false || x52.all flatV) (must (false || x56.all flatV) (must (false || x60.all flatV) (some (V.tup [V.int .i64 y1, V.int .i64 y2, V.osl x51 x52, V.osl x55 x56, V.osl x59 x60])))))) (both (need (O.R 0
 128 [V.sl y3 y4]) fun x61 => asTup (some x61) fun x62 => asOsl x62[0]? fun x63 x64 => need (O.R 0 128 [V.sl y5 y6]) fun x65 => asTup (some x65) fun x66 => asOsl x66[0]? fun x67 x68 => need (O.R 0 128
 [V.sl y7 y8]) fun x69 => asTup (some x69) fun x70 => asOsl x70[0]? fun x71 x72 => must (false || x64.all flatV) (must (false || x68.all flatV) (must (false || x72.all flatV) (some (V.tup [V.int .i64
 y1, V.int .i64 y2, V.osl x63 x64, V.osl x67 x68, V.osl x71 x72]))))) (need (O.R 0 128 [V.sl y3 y4]) fun x73 => asTup (some x73) fun x74 => asOsl x74[0]? fun x75 x76 => need (O.R 0 128 [V.sl y5 y6])
 fun x77 => asTup (some x77) fun x78 => asOsl x78[0]? fun x79 x80 => need (O.R 0 128 [V.sl y7 y8]) fun x81 => asTup (some x81) fun x82 => asOsl x82[0]? fun x83 x84 => must (false || x76.all flatV)
 (must (false || x80.all flatV) (must (false || x84.all flatV) (some (V.tup [V.int .i64 y1, V.int .i64 y2, V.osl x75 x76, V.osl x79 x80, V.osl x83 x84])))))))) (both (both (both (need (O.R 0 128 [V.sl
 y3 y4]) fun x85 => asTup (some x85) fun x86 => asOsl x86[0]? fun x87 x88 => both (need (O.R 0 128 [V.sl y5 y6]) fun x89 => asTup (some x89) fun x90 => asOsl x90[0]? fun x91 x92 => need (O.R 0 128
 [V.sl y7 y8]) fun x93 => asTup (some x93) fun x94 => asOsl x94[0]? fun x95 x96 => must (false || x88.all flatV) (must (false || x92.all flatV) (must (false || x96.all flatV) (some (V.tup [V.int .i64
 y1, V.int .i64 y2, V.osl x87 x88, V.osl x91 x92, V.osl x95 x96]))))) (need (O.R 0 128 [V.sl y5 y6]) fun x97 => asTup (some x97) fun x98 => asOsl x98[0]? fun x99 x100 => need (O.R 0 128 [V.sl y7 y8])
 fun x101 => asTup (some x101) fun x102 => asOsl x102[0]? fun x103 x104 => must (false || x88.all flatV) (must (false || x100.all flatV) (must (false || x104.all flatV) (some (V.tup [V.int .i64 y1,
 V.int .i64 y2, V.osl x87 x88, V.osl x99 x100, V.osl x103 x104])))))) (need (O.R 0 128 [V.sl y3 y4]) fun x105 => asTup (some x105) fun x106 => asOsl x106[0]? fun x107 x108 => need (O.R 0 128 [V.sl y5
 y6]) fun x109 => asTup (some x109) fun x110 => asOsl x110[0]? fun x111 x112 => need (O.R 0 128 [V.sl y7 y8]) fun x113 => asTup (some x113) fun x114 => asOsl x114[0]? fun x115 x116 => must (false ||
 x108.all flatV) (must (false || x112.all flatV) (must (false || x116.all flatV) (some (V.tup [V.int .i64 y1, V.int .i64 y2, V.osl x107 x108, V.osl x111 x112, V.osl x115 x116])))))) (need (O.R 0 128
 [V.sl y3 y4]) fun x117 => asTup (some x117) fun x118 => asOsl x118[0]? fun x119 x120 => need (O.R 0 128 [V.sl y5 y6]) fun x121 => asTup (some x121) fun x122 => asOsl x122[0]? fun x123 x124 => need
 (O.R 0 128 [V.sl y7 y8]) fun x125 => asTup (some x125) fun x126 => asOsl x126[0]? fun x127 x128 => must (false || x120.all flatV) (must (false || x124.all flatV) (must (false || x128.all flatV) (some
 (V.tup [V.int .i64 y1, V.int .i64 y2, V.osl x119 x120, V.osl x123 x124, V.osl x127 x128])))))) (both (both (need (O.R 0 128 [V.sl y3 y4]) fun x129 => asTup (some x129) fun x130 => asOsl x130[0]? fun
 x131 x132 => need (O.R 0 128 [V.sl y5 y6]) fun x133 => asTup (some x133) fun x134 => asOsl x134[0]? fun x135 x136 => need (O.R 0 128 [V.sl y7 y8]) fun x137 => asTup (some x137) fun x138 => asOsl
 x138[0]? fun x139 x140 => must (false || x132.all flatV) (must (false || x136.all flatV) (must (false || x140.all flatV) (some (V.tup [V.int .i64 y1, V.int .i64 y2, V.osl x131 x132, V.osl x135 x136,
 V.osl x139 x140]))))) (need (O.R 0 128 [V.sl y3 y4]) fun x141 => asTup (some x141) fun x142 => asOsl x142[0]? fun x143 x144 => need (O.R 0 128 [V.sl y5 y6]) fun x145 => asTup (some x145) fun x146 =>
 asOsl x146[0]? fun x147 x148 => need (O.R 0 128 [V.sl y7 y8]) fun x149 => asTup (some x149) fun x150 => asOsl x150[0]? fun x151 x152 => must (false || x144.all flatV) (must (false || x148.all flatV)
 (must (false || x152.all flatV) (some (V.tup [V.int .i64 y1, V.int .i64 y2, V.osl x143 x144, V.osl x147 x148, V.osl x151 x152])))))) (need (O.R 0 128 [V.sl y3 y4]) fun x153 => asTup (some x153) fun
 x154 => asOsl x154[0]? fun x155 x156 => need (O.R 0 128 [V.sl y5 y6]) fun x157 => asTup (some x157) fun x158 => asOsl x158[0]? fun x159 x160 => need (O.R 0 128 [V.sl y7 y8]) fun x161 => asTup (some
 x161) fun x162 => asOsl x162[0]? fun x163 x164 => must (false || x156.all flatV) (must (false || x160.all flatV) (must (false || x164.all flatV) (some (V.tup [V.int .i64 y1, V.int .i64 y2, V.osl x155
 x156, V.osl x159 x160, V.osl x163 x164])))))))
theorem E101 (y1 y2 y3 y4 y5 y6 y7 y8) {r : V} (h : T101 (orcE C) 0 0 0 0 y1 y2 y3 y4 y5 y6 y7 y8 = some r) : runE C 101 [V.agg
 [V.int .i64 y1, V.int .i64 y2, V.sl y3 y4, V.sl y5 y6, V.sl y7 y8]] = some r := ofR (j := 1) (F := fun s => T101 (orc C s.k) s.k s.m 0 0 y1 y2 y3 y4 y5 y6 y7 y8) (fun _ => by kernel_rfl) (by
  unfold T101
  repeat' first | (with_reducible first | exact cC | refine cN cR fun _ => ?_ | refine cT fun _ => ?_ | refine cM ?_ | refine cO fun _ _ => ?_ | refine cN cC fun _ => ?_ | refine cW ?_ ?_ | exact cR)) h

noncomputable def T102 (O : Orc) (k m q0 q1 : Nat) (y1 : Nat) (y2 : List V) : Option V := O.L 0 102 0 [true, true, false, true] [] k [(3, V.ref 0), (7, V.sl y1 y2), (8, V.int .i64 (↑y1 : Int)), (9,
 V.int .i64 0)] [Ob.nrow [] 78 0 []]
theorem E102 (y1 y2) {r : V} (h : T102 (orcE C) 0 0 0 0 y1 y2 = some r) : runE C 102 [V.sl y1 y2] = some r := ofR (j := 1) (F := fun s => T102 (orc C s.k) s.k s.m 0 0 y1 y2) (fun _ =>
 by kernel_rfl) (by
  unfold T102
  repeat' first | with_reducible exact cC | exact cD0 gK) h

noncomputable def T103 (O : Orc) (k m q0 q1 : Nat) (y1 : Nat) (y2 : List V) : Option V := O.L 0 103 0 [true, true, false, true] [] k [(3, V.ref 0), (7, V.sl y1 y2), (8, V.int .i64 (↑y1 : Int)), (9,
 V.int .i64 0)] [Ob.nrow [] 22 0 []]
theorem E103 (y1 y2) {r : V} (h : T103 (orcE C) 0 0 0 0 y1 y2 = some r) : runE C 103 [V.sl y1 y2] = some r := ofR (j := 1) (F := fun s => T103 (orc C s.k) s.k s.m 0 0 y1 y2) (fun _ =>
 by kernel_rfl) (by
  unfold T103
  repeat' first | with_reducible exact cC | exact cD0 gK) h

noncomputable def T104l1 (O : Orc) (k m q0 q1 : Nat) (y1 : Nat) (y2 : List V) (y3 : Nat) (y4 : List V) (y5 : Int) : Option V := bif decide (y5 < (↑y1 : Int)) then must (inB y5 y1) (PI.asInt .u8
 y2[y5.toNat * 1]? fun x1 => must (inB y5 y3) (PI.asInt .u8 y4[y5.toNat * 1]? fun x2 => bif x1 != x2 then some (V.tup [V.bool false]) else O.L 0 104 0 [true, true, false, true] [] m [(0, V.sl y1 y2),
 (1, V.sl y3 y4), (5, V.int .i64 (IntKind.i64.wrap (y5 + 1)))] [])) else some (V.tup [V.bool true])
theorem E104l1 (y1 y2 y3 y4 y5) {r : V} (h : T104l1 (orcE C) 0 0 0 0 y1 y2 y3 y4 y5 = some r) : loopE C 104 0 [true, true, false, true] [] [(0, V.sl y1 y2),
 (1, V.sl y3 y4), (5, V.int .i64 y5)] [] = some r := ofL (j := 0) (F := fun s => T104l1 (orc C s.k) s.k s.m 0 0 y1 y2 y3 y4 y5) (fs0 fun _ _ => by kernel_rfl) (by
  unfold T104l1
  repeat' first | (with_reducible first | exact cC | refine cI fun _ => ?_ | refine cM ?_ | refine cF ?_ ?_) | exact cD0 gM) h

noncomputable def T105 (O : Orc) (k m q0 q1 : Nat) (y1 y2 : Int) (y3 : Nat) (y4 : List V) (y5 y6 : Int) (y7 : Nat) (y8 : List V) (y9 y10 : Int) (y11 : Nat) (y12 : List V) (y13 :
 Int) (y14 : Int) (y15 : Nat) (y16 : List V) : Option V := bif y1 != y9 then some (V.tup [V.bool false]) else need (O.R 0 129 [V.agg [V.int .i64 y2, V.sl y3 y4, V.int .i64 y5, V.int .i64 y6, V.sl y7
 y8], V.agg [V.int .i64 y10, V.sl y11 y12, V.int .i64 y13, V.int .i64 y14, V.sl y15 y16]]) fun x1 => asTup (some x1) fun x2 => PI.asBool x2[0]? fun x3 => bif !x3 then some (V.tup [V.bool false]) else
 some (V.tup [V.bool true])
theorem E105 (y1 y2 y3 y4 y5 y6 y7 y8 y9 y10 y11 y12 y13 y14 y15) (y16 :
 List V) {r : V} (h : T105 (orcE C) 0 0 0 0 y1 y2 y3 y4 y5 y6 y7 y8 y9 y10 y11 y12 y13 y14 y15 y16 = some r) : runE C 105 [V.agg [V.int .i64 y1, V.int .i64 y2, V.sl y3 y4, V.int .i64 y5, V.int .i64 y6,
 V.sl y7 y8], V.agg [V.int .i64 y9, V.int .i64 y10, V.sl y11 y12, V.int .i64 y13, V.int .i64 y14, V.sl y15 y16]] = some r := ofR (j := 1) (F := fun s => T105 (orc C s.k) s.k s.m 0 0 y1 y2 y3 y4 y5 y6
 y7 y8 y9 y10 y11 y12 y13 y14 y15 y16) (fun _ => by kernel_rfl) (by
  unfold T105
  repeat' first | (with_reducible first | exact cC | refine cN cR fun _ => ?_ | refine cT fun _ => ?_ | refine cF ?_ ?_ | refine cB fun _ => ?_ | refine cN cC fun _ => ?_ | exact cR)) h

noncomputable def T59l1 (O : Orc) (k m q0 q1 : Nat) (y1 y2 : Int) (y3 : Nat) (y4 : List V) : Option V := bif decide (y2 < (↑y3 : Int)) then must (inB y2 y3) (must ([V.int .u8 (IntKind.u8.wrap
 y1)].length.beq 1 && (y2.toNat * 1 + [V.int .u8 (IntKind.u8.wrap y1)].length).ble y4.length) (O.X 0 59 [0] [Ob.row 5 0 [] false] 0 [true, false, true] [] m [(0, V.ref 0), (1, V.int .i64
 (IntKind.i64.wrap (y1 + 1))), (5, V.int .i64 (IntKind.i64.wrap (y2 + 1)))] [Ob.row 5 y3 (splice y4 (y2.toNat * 1) [V.int .u8 (IntKind.u8.wrap y1)]) false])) else must (false || y4.all flatV) (some
 (V.tup [V.int .i64 y1, V.osl y3 y4]))
theorem E59l1 (y1 y2 y3 y4) {r : V} (h : T59l1 (orcE C) 0 0 0 0 y1 y2 y3 y4 = some r) : loopWE C 59 [0] [Ob.row 5 0 [] false] 0 [true, false, true] [] [(0, V.ref 0),
 (1, V.int .i64 y1), (5, V.int .i64 y2)] [Ob.row 5 y3 y4 false] = some r := ofX (j := 0) (F := fun s => T59l1 (orc C s.k) s.k s.m 0 0 y1 y2 y3 y4) (fs0 fun _ _ => by kernel_rfl) (by
  unfold T59l1
  repeat' first | (with_reducible first | exact cC | refine cM ?_ | refine cF ?_ ?_) | exact cX0 gM) h

noncomputable def T130 (O : Orc) (k m q0 q1 : Nat) (y1 : Nat) (y2 : List V) (y3 : Int) : Option V := O.L 0 130 0 [true, false, true] [] k [(0, V.sl y1 y2), (1, V.int .i64 y3), (5, V.int .i64 0)] []
theorem E130 (y1 y2 y3) {r : V} (h : T130 (orcE C) 0 0 0 0 y1 y2 y3 = some r) : runE C 130 [V.sl y1 y2, V.int .i64 y3] = some r := ofR (j := 1) (F := fun s => T130 (orc C s.k)
 s.k s.m 0 0 y1 y2 y3) (fun _ => by kernel_rfl) (by
  unfold T130
  repeat' first | with_reducible exact cC | exact cD0 gK) h

noncomputable def T107l1 (O : Orc) (k m q0 q1 : Nat) (y1 : Nat) (y2 : List V) (y3 y4 : Int) : Option V := bif decide (y4 < (↑y1 : Int)) then must (inB y4 y1) (must (decide (y4.toNat * 2 + 0 <
 y2.length)) (asSl y2[y4.toNat * 2 + 0]? fun x1 x2 => need (O.R 0 130 [V.sl x1 x2, V.int .i64 y3]) fun x3 => asTup (some x3) fun x4 => PI.asInt .i64 x4[0]? fun x5 => bif decide (x5 < 0) then some
 (V.tup [V.int .i64 (-1)]) else must (inB y4 y1) (PI.asInt .i64 y2[y4.toNat * 2 + 1]? fun x6 => bif x6 != x5 then some (V.tup [V.int .i64 (-1)]) else O.L 0 107 0 [true, false, true] [] m [(0, V.sl y1
 y2), (1, V.int .i64 (IntKind.i64.wrap (x5 + 1))), (5, V.int .i64 (IntKind.i64.wrap (y4 + 1)))] []))) else some (V.tup [V.int .i64 y3])
theorem E107l1 (y1 y2 y3 y4) {r : V} (h : T107l1 (orcE C) 0 0 0 0 y1 y2 y3 y4 = some r) : loopE C 107 0 [true, false, true] [] [(0, V.sl y1 y2), (1, V.int .i64 y3), (5,
 V.int .i64 y4)] [] = some r := ofL (j := 0) (F := fun s => T107l1 (orc C s.k) s.k s.m 0 0 y1 y2 y3 y4) (fs0 fun _ _ => by kernel_rfl) (by
  unfold T107l1
  repeat' first | (with_reducible first | exact cC | refine cN cR fun _ => ?_ | refine cT fun _ => ?_ | refine cI fun _ => ?_ | refine cM ?_ | refine cF ?_ ?_ | refine cL fun _ _ => ?_ | refine cN cC fun _ => ?_ | exact cR) | exact cD0 gM) h

noncomputable def T108l1 (O : Orc) (k m q0 q1 : Nat) (y1 : Nat) (y2 : List V) (y3 y4 : Int) : Option V := bif decide (y4 < (↑y1 : Int)) then must (inB y4 y1) (must (decide (y4.toNat * 1 <
 y2.length)) (asSl y2[y4.toNat * 1]? fun x1 x2 => need (O.R 0 130 [V.sl x1 x2, V.int .i64 y3]) fun x3 => asTup (some x3) fun x4 => PI.asInt .i64 x4[0]? fun x5 => bif decide (x5 < 0) then some (V.tup
 [V.int .i64 (-1)]) else O.L 0 108 0 [true, false, true] [] m [(0, V.sl y1 y2), (1, V.int .i64 x5), (5, V.int .i64 (IntKind.i64.wrap (y4 + 1)))] [])) else some (V.tup [V.int .i64 y3])
theorem E108l1 (y1 y2 y3 y4) {r : V} (h : T108l1 (orcE C) 0 0 0 0 y1 y2 y3 y4 = some r) : loopE C 108 0 [true, false, true] [] [(0, V.sl y1 y2), (1, V.int .i64 y3), (5,
 V.int .i64 y4)] [] = some r := ofL (j := 0) (F := fun s => T108l1 (orc C s.k) s.k s.m 0 0 y1 y2 y3 y4) (fs0 fun _ _ => by kernel_rfl) (by
  unfold T108l1
  repeat' first | (with_reducible first | exact cC | refine cN cR fun _ => ?_ | refine cT fun _ => ?_ | refine cI fun _ => ?_ | refine cM ?_ | refine cF ?_ ?_ | refine cL fun _ _ => ?_ | refine cN cC fun _ => ?_ | exact cR) | exact cD0 gM) h

noncomputable def T112 (O : Orc) (k m q0 q1 : Nat) (y1 : Int) (y2 : Nat) (y3 : List V) (y4 y5 : Int) (y6 : Nat) (y7 : List V) (y8 : Int) : Option V := need (O.R 0 31 [V.sl y2 y3, V.int .i64
 y8]) fun x1 => asTup (some x1) fun x2 => PI.asInt .i64 x2[0]? fun x3 => bif decide (x3 < 0) then some (V.tup [V.int .i64 (-1)]) else need (O.R 0 131 [V.agg [V.int .i64 y4, V.int .i64 y5, V.sl y6 y7],
 V.int .i64 x3]) fun x4 => asTup (some x4) fun x5 => PI.asInt .i64 x5[0]? fun x6 => bif decide (x6 < 0) then some (V.tup [V.int .i64 (-1)]) else some (V.tup [V.int .i64 x6])
theorem E112 (y1 y2 y3 y4 y5 y6 y7 y8) {r : V} (h : T112 (orcE C) 0 0 0 0 y1 y2 y3 y4 y5 y6 y7 y8 = some r) : runE C 112 [V.agg
 [V.int .i64 y1, V.sl y2 y3, V.int .i64 y4, V.int .i64 y5, V.sl y6 y7], V.int .i64 y8] = some r := ofR (j := 1) (F := fun s => T112 (orc C s.k) s.k s.m 0 0 y1 y2 y3 y4 y5 y6 y7 y8) (fun _ => by
 kernel_rfl) (by
  unfold T112
  repeat' first | (with_reducible first | exact cC | refine cN cR fun _ => ?_ | refine cT fun _ => ?_ | refine cI fun _ => ?_ | refine cF ?_ ?_ | refine cN cC fun _ => ?_ | exact cR)) h

noncomputable def T118 (O : Orc) (k m q0 q1 : Nat) (y1 : Int) (y2 : Nat) (y3 : List V) (y4 y5 : Int) (y6 : Nat) (y7 : List V) : Option V := need (O.R 0 43 [V.sl y2 y3]) fun x1 => asTup (some
 x1) fun x2 => asOsl x2[0]? fun x3 x4 => need (O.R 0 142 [V.agg [V.int .i64 y4, V.int .i64 y5, V.sl y6 y7]]) fun x5 => asTup (some x5) fun x6 => PI.asInt .i64 x6[0]? fun x7 => PI.asInt .i64 x6[1]? fun
 x8 => asOsl x6[2]? fun x9 x10 => some (V.tup [V.int .i64 y1, V.osl x3 x4, V.int .i64 x7, V.int .i64 x8, V.osl x9 x10])
theorem E118 (y1 y2 y3 y4 y5 y6 y7) {r : V} (h : T118 (orcE C) 0 0 0 0 y1 y2 y3 y4 y5 y6 y7 = some r) : runE C 118 [V.agg [V.int .i64 y1,
 V.sl y2 y3, V.int .i64 y4, V.int .i64 y5, V.sl y6 y7]] = some r := ofR (j := 1) (F := fun s => T118 (orc C s.k) s.k s.m 0 0 y1 y2 y3 y4 y5 y6 y7) (fun _ => by kernel_rfl) (by
  unfold T118
  repeat' first | (with_reducible first | exact cC | refine cN cR fun _ => ?_ | refine cT fun _ => ?_ | refine cI fun _ => ?_ | refine cO fun _ _ => ?_ | refine cN cC fun _ => ?_ | exact cR)) h

noncomputable def T72l2 (O : Orc) (k m q0 q1 : Nat) (y1 : Nat) (y2 : List V) (y3 y4 : Int) : Option V := bif decide (y4 < y3) then must (inB y4 y1) (must (decide (y4.toNat * 2 + 0 < y2.length))
 (must (inB y3 y1) (must (decide (y3.toNat * 2 + 0 < y2.length)) (asSl y2[y4.toNat * 2 + 0]? fun x1 x2 => asSl y2[y3.toNat * 2 + 0]? fun x3 x4 => need (O.R 0 37 [V.sl x1 x2, V.sl x3 x4]) fun x5 =>
 asTup (some x5) fun x6 => PI.asBool x6[0]? fun x7 => bif x7 then some (V.tup [V.int .i64 7]) else O.L 0 72 2 [true, true, true, false, true, false, true, false, false, true, true, true] [q0] m [(0,
 V.sl y1 y2), (3, V.int .i64 y3), (4, V.int .i64 (IntKind.i64.wrap (y4 + 1)))] [])))) else O.L 0 72 0 [true, true, true, false, true] [] q0 [(0, V.sl y1 y2), (3, V.int .i64 (IntKind.i64.wrap (y3 +
 1)))] []
theorem E72l2 (y1 y2 y3 y4) {r : V} (h : T72l2 (orcE C) 0 0 0 0 y1 y2 y3 y4 = some r) : loopE C 72 2 [true, true, true, false, true, false, true, false, false, true,
 true, true] [0] [(0, V.sl y1 y2), (3, V.int .i64 y3), (4, V.int .i64 y4)] [] = some r := ofL (j := 0) (F := fun s => T72l2 (orc C s.k) s.k s.m (s.fs.getD 0 0) 0 y1 y2 y3 y4) (fs1 fun _ _ _ => by
 kernel_rfl) (by
  unfold T72l2
  repeat' first | (with_reducible first | exact cC | refine cN cR fun _ => ?_ | refine cT fun _ => ?_ | refine cM ?_ | refine cF ?_ ?_ | refine cB fun _ => ?_ | refine cL fun _ _ => ?_ | refine cN cC fun _ => ?_ | exact cR) | exact cD0 (gF (i := 0) (by decide)) | exact cD1 gM (gF (i := 0) (by decide))) h

noncomputable def T113 (O : Orc) (k m q0 q1 : Nat) (y1 : Int) (y2 : Nat) (y3 : List V) (y4 y5 : Int) (y6 : Nat) (y7 : List V) : Option V := need (O.R 0 74 [V.int .i64 y1, V.int .i64 0, V.int
 .i64 3]) fun x1 => asTup (some x1) fun x2 => PI.asBool x2[0]? fun x3 => bif !x3 then some (V.tup [V.bool false]) else bif (↑y2 : Int) != 19 then some (V.tup [V.bool false]) else need (O.R 0 132 [V.agg
 [V.int .i64 y4, V.int .i64 y5, V.sl y6 y7]]) fun x4 => asTup (some x4) fun x5 => PI.asBool x5[0]? fun x6 => bif !x6 then some (V.tup [V.bool false]) else bif y4 == y1 then some (V.tup [V.bool (y5 ==
 4)]) else some (V.tup [V.bool false])
theorem E113 (y1 y2 y3 y4 y5 y6 y7) {r : V} (h : T113 (orcE C) 0 0 0 0 y1 y2 y3 y4 y5 y6 y7 = some r) : runE C 113 [V.agg [V.int .i64 y1,
 V.sl y2 y3, V.int .i64 y4, V.int .i64 y5, V.sl y6 y7]] = some r := ofR (j := 1) (F := fun s => T113 (orc C s.k) s.k s.m 0 0 y1 y2 y3 y4 y5 y6 y7) (fun _ => by kernel_rfl) (by
  unfold T113
  repeat' first | (with_reducible first | exact cC | refine cN cR fun _ => ?_ | refine cT fun _ => ?_ | refine cF ?_ ?_ | refine cB fun _ => ?_ | refine cN cC fun _ => ?_ | exact cR)) h

noncomputable def T114 (O : Orc) (k m q0 q1 : Nat) (y1 : Nat) (y2 : List V) : Option V := need (O.R 0 77 [V.str { data := #[(109 : UInt8), (101 : UInt8), (115 : UInt8), (115 : UInt8), (97 : UInt8),
 (103 : UInt8), (101 : UInt8)] }, V.sl y1 y2]) fun x1 => asTup (some x1) fun x2 => asOsl x2[0]? fun x3 x4 => O.L 0 114 0 [true, true, true, true, false, true] [] k [(3, V.ref 0), (4, V.ref 1), (5,
 V.int .i64 0), (6, V.int .i64 0)] [Ob.row 5 x3 x4 false, Ob.row 2 0 [] false]
theorem E114 (y1 y2) {r : V} (h : T114 (orcE C) 0 0 0 0 y1 y2 = some r) : runE C 114 [V.sl y1 y2] = some r := ofR (j := 1) (F := fun s => T114 (orc C s.k) s.k s.m 0 0 y1 y2) (fun _ =>
 by kernel_rfl) (by
  unfold T114
  repeat' first | (with_reducible first | exact cC | refine cN cR fun _ => ?_ | refine cT fun _ => ?_ | refine cO fun _ _ => ?_ | refine cN cC fun _ => ?_ | exact cR) | exact cD0 gK) h

noncomputable def T75l1 (O : Orc) (k m q0 q1 : Nat) (y1 : Nat) (y2 : List V) (y3 y4 : Int) (y5 : Nat) (y6 : List V) (y7 y8 : Int) (y9 : Nat) (y10 : List V) (y11 : Nat) (y12 : List V) (y13 : Nat) (y14 : List V) : Option V := bif decide (y3 < 19) then must (inB y3 y5) (must (decide (y3.toNat * 1 < y6.length)) (asSl y6[y3.toNat * 1]? fun x1 x2 => bif (↑x1 : Int) != 32 then some
 (V.tup [V.bool false]) else must (inB y3 y5) (must (decide (y3.toNat * 1 < y6.length)) (must (inB y3 y11) (PI.asInt .i64 y12[y3.toNat * 1]? fun x3 => asSl y6[y3.toNat * 1]? fun x4 x5 => need (O.R 0
 115 [V.sl x4 x5, V.int .i64 (IntKind.i64.wrap (3 - x3))]) fun x6 => asTup (some x6) fun x7 => asOsl x7[0]? fun x8 x9 => must (decide (x9.length = x8 * 1)) (must (true && (y13 + x8).ble 140737488355328
 && ((y13 + x8) * 1).ble 140737488355328) (O.L 0 75 0 [true, true, true, true, false, true] [] m [(0, V.sl y1 y2), (5, V.ptr 0 0), (7, V.ref 1), (8, V.ref 2), (9, V.int .i64 (IntKind.i64.wrap (y3 +
 1)))] [Ob.box 108 [V.int .i64 y4, V.sl y5 y6, V.int .i64 y7, V.int .i64 y8, V.sl y9 y10] false, Ob.row 2 y11 y12 false, Ob.row 5 (y13 + x8) (y14 ++ x9) false]))))))) else need (O.R 0 116 [V.sl y1 y2,
 V.sl y13 y14, V.agg [V.int .i64 y7, V.int .i64 y8, V.sl y9 y10]]) fun x10 => asTup (some x10) fun x11 => PI.asBool x11[0]? fun x12 => some (V.tup [V.bool x12])
theorem E75l1 (y1 y2 y3 y4 y5 y6 y7 y8 y9 y10 y11 y12 y13 y14) {r : V} (h :
 T75l1 (orcE C) 0 0 0 0 y1 y2 y3 y4 y5 y6 y7 y8 y9 y10 y11 y12 y13 y14 = some r) : loopE C 75 0 [true, true, true, true, false, true] [] [(0, V.sl y1 y2), (5, V.ptr 0 0), (7, V.ref 1), (8, V.ref 2),
 (9, V.int .i64 y3)] [Ob.box 108 [V.int .i64 y4, V.sl y5 y6, V.int .i64 y7, V.int .i64 y8, V.sl y9 y10] false, Ob.row 2 y11 y12 false, Ob.row 5 y13 y14 false] = some r := ofL (j := 0) (F := fun s =>
 T75l1 (orc C s.k) s.k s.m 0 0 y1 y2 y3 y4 y5 y6 y7 y8 y9 y10 y11 y12 y13 y14) (fs0 fun _ _ => by kernel_rfl) (by
  unfold T75l1
  repeat' first | (with_reducible first | exact cC | refine cN cR fun _ => ?_ | refine cT fun _ => ?_ | refine cI fun _ => ?_ | refine cM ?_ | refine cF ?_ ?_ | refine cB fun _ => ?_ | refine cL fun _ _ => ?_ | refine cO fun _ _ => ?_ | refine cN cC fun _ => ?_ | exact cR) | exact cD0 gM) h

noncomputable def T136 (O : Orc) (k m q0 q1 : Nat)  : Option V := some (V.agg [V.int .i64 1116352408, V.int .i64 1899447441, V.int .i64 3049323471, V.int .i64 3921009573, V.int .i64 961987163, V.int
 .i64 1508970993, V.int .i64 2453635748, V.int .i64 2870763221, V.int .i64 3624381080, V.int .i64 310598401, V.int .i64 607225278, V.int .i64 1426881987, V.int .i64 1925078388, V.int .i64 2162078206,
 V.int .i64 2614888103, V.int .i64 3248222580, V.int .i64 3835390401, V.int .i64 4022224774, V.int .i64 264347078, V.int .i64 604807628, V.int .i64 770255983, V.int .i64 1249150122, V.int .i64
 1555081692, V.int .i64 1996064986, V.int .i64 2554220882, V.int .i64 2821834349, V.int .i64 2952996808, V.int .i64 3210313671, V.int .i64 3336571891, V.int .i64 3584528711, V.int .i64 113926993, V.int
 .i64 338241895, V.int .i64 666307205, V.int .i64 773529912, V.int .i64 1294757372, V.int .i64 1396182291, V.int .i64 1695183700, V.int .i64 1986661051, V.int .i64 2177026350, V.int .i64 2456956037,
 V.int .i64 2730485921, V.int .i64 2820302411, V.int .i64 3259730800, V.int .i64 3345764771, V.int .i64 3516065817, V.int .i64 3600352804, V.int .i64 4094571909, V.int .i64 275423344, V.int .i64
 430227734, V.int .i64 506948616, V.int .i64 659060556, V.int .i64 883997877, V.int .i64 958139571, V.int .i64 1322822218, V.int .i64 1537002063, V.int .i64 1747873779, V.int .i64 1955562222, V.int
 .i64 2024104815, V.int .i64 2227730452, V.int .i64 2361852424, V.int .i64 2428436474, V.int .i64 2756734187, V.int .i64 3204031479, V.int .i64 3329325298])
theorem E136  {r : V} (h : T136 (orcE C) 0 0 0 0  = some r) : runE C 136 [] = some r := ofR (j := 1) (F := fun s => T136 (orc C s.k) s.k s.m 0 0 ) (fun _ => by kernel_rfl) (by
  unfold T136
  exact cC) h

noncomputable def T137 (O : Orc) (k m q0 q1 : Nat)  : Option V := some (V.tup [V.int .i64 1779033703, V.int .i64 3144134277, V.int .i64 1013904242, V.int .i64 2773480762, V.int .i64 1359893119, V.int
 .i64 2600822924, V.int .i64 528734635, V.int .i64 1541459225])
theorem E137  {r : V} (h : T137 (orcE C) 0 0 0 0  = some r) : runE C 137 [] = some r := ofR (j := 1) (F := fun s => T137 (orc C s.k) s.k s.m 0 0 ) (fun _ => by kernel_rfl) (by
  unfold T137
  exact cC) h

noncomputable def T138 (O : Orc) (k m q0 q1 : Nat) (y1 : Nat) (y2 : List V) : Option V := must (decide (y2.length = y1 * 1)) (must (true && (0 + y1).ble 140737488355328 && ((0 + y1) * 1).ble
 140737488355328) (must (true && (0 + y1 + 1).ble 140737488355328 && ((0 + y1 + 1) * 1).ble 140737488355328) (O.L 0 138 0 [true, true, false] [] k [(0, V.sl y1 y2), (3, V.ref 0)] [Ob.row 5 (0 + y1 + 1)
 (y2 ++ [V.int .u8 128]) false])))
theorem E138 (y1 y2) {r : V} (h : T138 (orcE C) 0 0 0 0 y1 y2 = some r) : runE C 138 [V.sl y1 y2] = some r := ofR (j := 1) (F := fun s => T138 (orc C s.k) s.k s.m 0 0 y1 y2) (fun _ =>
 by kernel_rfl) (by
  unfold T138
  repeat' first | (with_reducible first | exact cC | refine cM ?_) | exact cD0 gK) h

noncomputable def T117l1 (O : Orc) (k m q0 q1 : Nat) (y1 : Nat) (y2 : List V) (y3 : Int) (y4 y5 : List V) : Option V := bif decide (y3 < (↑y1 : Int)) then O.L 0 117 2 [true, true, true,
 true, false, true, false, true, false, false, true, false, true] [m] k [(3, V.ptr 0 0), (4, V.ptr 1 0), (5, V.sl y1 y2), (6, V.int .i64 y3), (7, V.ptr 2 0), (8, V.int .i64 0)] [Ob.box 148 y4 false,
 Ob.box 150 y5 false, Ob.box 148 [V.int .i64 0, V.int .i64 0, V.int .i64 0, V.int .i64 0, V.int .i64 0, V.int .i64 0, V.int .i64 0, V.int .i64 0, V.int .i64 0, V.int .i64 0, V.int .i64 0, V.int .i64 0,
 V.int .i64 0, V.int .i64 0, V.int .i64 0, V.int .i64 0, V.int .i64 0, V.int .i64 0, V.int .i64 0, V.int .i64 0, V.int .i64 0, V.int .i64 0, V.int .i64 0, V.int .i64 0, V.int .i64 0, V.int .i64 0,
 V.int .i64 0, V.int .i64 0, V.int .i64 0, V.int .i64 0, V.int .i64 0, V.int .i64 0, V.int .i64 0, V.int .i64 0, V.int .i64 0, V.int .i64 0, V.int .i64 0, V.int .i64 0, V.int .i64 0, V.int .i64 0,
 V.int .i64 0, V.int .i64 0, V.int .i64 0, V.int .i64 0, V.int .i64 0, V.int .i64 0, V.int .i64 0, V.int .i64 0, V.int .i64 0, V.int .i64 0, V.int .i64 0, V.int .i64 0, V.int .i64 0, V.int .i64 0,
 V.int .i64 0, V.int .i64 0, V.int .i64 0, V.int .i64 0, V.int .i64 0, V.int .i64 0, V.int .i64 0, V.int .i64 0, V.int .i64 0, V.int .i64 0] false] else O.L 0 117 10 [true, true, true, true, true,
 true, false, true] [] k [(4, V.ptr 0 0), (17, V.ref 1), (18, V.int .i64 0)] [Ob.box 150 y5 false, Ob.row 5 0 [] false]
theorem E117l1 (y1 y2 y3 y4 y5) {r : V} (h : T117l1 (orcE C) 0 0 0 0 y1 y2 y3 y4 y5 = some r) : loopE C 117 0 [true, true, true, true, false, true] []
 [(3, V.ptr 0 0), (4, V.ptr 1 0), (5, V.sl y1 y2), (6, V.int .i64 y3)] [Ob.box 148 y4 false, Ob.box 150 y5 false] = some r := ofL (j := 0) (F := fun s => T117l1 (orc C s.k) s.k s.m 0 0 y1 y2 y3 y4 y5)
 (fs0 fun _ _ => by kernel_rfl) (by
  unfold T117l1
  repeat' first | (with_reducible first | exact cC | refine cF ?_ ?_) | exact cD0 gK | exact cD1 gK gM) h

noncomputable def T82l2 (O : Orc) (k m q0 q1 : Nat) (y1 : Nat) (y2 : List V) (y3 : Nat) (y4 : List V) (y5 y6 : Int) (y7 : List V) (y8 : Nat) (y9 y10 y11 : Int) (y12 : Nat) (y13
 : List V) (y14 : Nat) (y15 : List V) (y16 : Nat) (y17 : List V) (y18 : Nat) (y19 : List V) : Option V := bif decide (y9 < (↑y3 : Int)) then must (inB y9 y3) (must (decide (y9.toNat * 2 + 0 <
 y4.length)) (asSl y4[y9.toNat * 2 + 0]? fun x1 x2 => asSl y7[y8]? fun x3 x4 => need (O.R 0 37 [V.sl x1 x2, V.sl x3 x4]) fun x5 => asTup (some x5) fun x6 => PI.asBool x6[0]? fun x7 => bif x7 then must
 (inB y9 y3) (PI.asInt .i64 y4[y9.toNat * 2 + 1]? fun x8 => O.L 0 82 2 [true, true, false, true, false, true, false, false, true, true] [q0] m [(0, V.sl y1 y2), (1, V.sl y3 y4), (5, V.ptr 0 0), (7,
 V.int .i64 (IntKind.i64.wrap (y5 + x8))), (8, V.int .i64 y6), (9, V.prj y7 y8), (10, V.int .i64 (IntKind.i64.wrap (y9 + 1)))] [Ob.box 46 [V.int .i64 y10, V.int .i64 y11, V.sl y12 y13, V.sl y14 y15,
 V.sl y16 y17, V.sl y18 y19] false]) else O.L 0 82 2 [true, true, false, true, false, true, false, false, true, true] [q0] m [(0, V.sl y1 y2), (1, V.sl y3 y4), (5, V.ptr 0 0), (7, V.int .i64 y5), (8,
 V.int .i64 y6), (9, V.prj y7 y8), (10, V.int .i64 (IntKind.i64.wrap (y9 + 1)))] [Ob.box 46 [V.int .i64 y10, V.int .i64 y11, V.sl y12 y13, V.sl y14 y15, V.sl y16 y17, V.sl y18 y19] false])) else O.L 0
 82 0 [true, true, false, true] [] q0 [(0, V.sl y1 y2), (1, V.sl y3 y4), (5, V.ptr 0 0), (7, V.int .i64 y5), (8, V.int .i64 (IntKind.i64.wrap (y6 + 1)))] [Ob.box 46 [V.int .i64 y10, V.int .i64 y11,
 V.sl y12 y13, V.sl y14 y15, V.sl y16 y17, V.sl y18 y19] false]
theorem E82l2 (y1 y2 y3 y4 y5 y6 y7 y8 y9 y10 y11 y12 y13 y14 y15 y16 y17 y18 y19) {r : V} (h : T82l2 (orcE C) 0 0 0 0 y1 y2 y3 y4 y5 y6 y7 y8 y9 y10 y11 y12 y13 y14 y15 y16 y17 y18 y19 = some r) : loopE C 82 2 [true, true,
 false, true, false, true, false, false, true, true] [0] [(0, V.sl y1 y2), (1, V.sl y3 y4), (5, V.ptr 0 0), (7, V.int .i64 y5), (8, V.int .i64 y6), (9, V.prj y7 y8), (10, V.int .i64 y9)] [Ob.box 46
 [V.int .i64 y10, V.int .i64 y11, V.sl y12 y13, V.sl y14 y15, V.sl y16 y17, V.sl y18 y19] false] = some r := ofL (j := 0) (F := fun s => T82l2 (orc C s.k) s.k s.m (s.fs.getD 0 0) 0 y1 y2 y3 y4 y5 y6 y7
 y8 y9 y10 y11 y12 y13 y14 y15 y16 y17 y18 y19) (fs1 fun _ _ _ => by kernel_rfl) (by
  unfold T82l2
  repeat' first | (with_reducible first | exact cC | refine cN cR fun _ => ?_ | refine cT fun _ => ?_ | refine cI fun _ => ?_ | refine cM ?_ | refine cF ?_ ?_ | refine cB fun _ => ?_ | refine cL fun _ _ => ?_ | refine cN cC fun _ => ?_ | exact cR) | exact cD0 (gF (i := 0) (by decide)) | exact cD1 gM (gF (i := 0) (by decide))) h

noncomputable def T92s2 (O : Orc) (k m q0 q1 : Nat) (y1 : Nat) (y2 : List V) : Option V := need (O.R 0 121 [V.sl y1 y2, V.fn 143 []]) fun x1 => asTup (some x1) fun x2 => PI.asInt .i64 x2[0]? fun x3 =>
 some (V.tup [V.bool (decide (x3 ≥ 0))])
theorem E92s2 (y1 y2) {r : V} (h : T92s2 (orcE C) 0 0 0 0 y1 y2 = some r) : runE C 92 [V.sl y1 y2, V.fn 143 []] = some r := ofR (j := 1) (F := fun s => T92s2 (orc C s.k) s.k s.m 0 0 y1
 y2) (fun _ => by kernel_rfl) (by
  unfold T92s2
  repeat' first | (with_reducible first | exact cC | refine cN cR fun _ => ?_ | refine cT fun _ => ?_ | refine cI fun _ => ?_ | refine cN cC fun _ => ?_ | exact cR)) h

noncomputable def T94 (O : Orc) (k m q0 q1 : Nat) (y1 : Nat) (y2 : List V) : Option V := some (V.tup [V.bool ((↑y1 : Int) == 32)])
theorem E94 (y1 y2) {r : V} (h : T94 (orcE C) 0 0 0 0 y1 y2 = some r) : runE C 94 [V.sl y1 y2] = some r := ofR (j := 1) (F := fun s => T94 (orc C s.k) s.k s.m 0 0 y1 y2) (fun _ => by
 kernel_rfl) (by
  unfold T94
  exact cC) h

noncomputable def T120 (O : Orc) (k m q0 q1 : Nat) (y1 : Nat) (y2 : List V) (y3 : Nat) (y4 : List V) : Option V := need (O.R 0 144 [V.sl y1 y2, V.fn 145 [V.pin [V.sl y3 y4] 0]]) fun x1 => asTup (some
 x1) fun x2 => PI.asInt .i64 x2[0]? fun x3 => some (V.tup [V.int .i64 x3])
theorem E120 (y1 y2 y3 y4) {r : V} (h : T120 (orcE C) 0 0 0 0 y1 y2 y3 y4 = some r) : runE C 120 [V.sl y1 y2, V.sl y3 y4] = some r := ofR (j := 1) (F := fun s =>
 T120 (orc C s.k) s.k s.m 0 0 y1 y2 y3 y4) (fun _ => by kernel_rfl) (by
  unfold T120
  repeat' first | (with_reducible first | exact cC | refine cN cR fun _ => ?_ | refine cT fun _ => ?_ | refine cI fun _ => ?_ | refine cN cC fun _ => ?_ | exact cR)) h

noncomputable def T121l1 (O : Orc) (k m q0 q1 : Nat) (y1 : Nat) (y2 : List V) (y3 y4 : Int) : Option V := bif decide (y4 < y3) then must (inB y4 y1) (must (decide (y4.toNat * 1 < y2.length))
 (asSl y2[y4.toNat * 1]? fun x1 x2 => need (O.R 0 93 [V.sl x1 x2]) fun x3 => asTup (some x3) fun x4 => PI.asBool x4[0]? fun x5 => bif x5 then some (V.tup [V.int .i64 y4]) else O.L 0 121 0 [true, false,
 true] [] m [(0, V.sl y1 y2), (1, V.fn 93 []), (7, V.int .i64 y3), (8, V.int .i64 (IntKind.i64.wrap (y4 + 1)))] [])) else some (V.tup [V.int .i64 (-1)])
theorem E121l1 (y1 y2 y3 y4) {r : V} (h : T121l1 (orcE C) 0 0 0 0 y1 y2 y3 y4 = some r) : loopE C 121 0 [true, false, true] [] [(0, V.sl y1 y2), (1, V.fn 93 []), (7,
 V.int .i64 y3), (8, V.int .i64 y4)] [] = some r := ofL (j := 0) (F := fun s => T121l1 (orc C s.k) s.k s.m 0 0 y1 y2 y3 y4) (fs0 fun _ _ => by kernel_rfl) (by
  unfold T121l1
  repeat' first | (with_reducible first | exact cC | refine cN cR fun _ => ?_ | refine cT fun _ => ?_ | refine cM ?_ | refine cF ?_ ?_ | refine cB fun _ => ?_ | refine cL fun _ _ => ?_ | refine cN cC fun _ => ?_ | exact cR) | exact cD0 gM) h

noncomputable def T95 (O : Orc) (k m q0 q1 : Nat) (y1 : Nat) (y2 : List V) (y3 : Nat) (y4 : List V) (y5 : Int) (y6 : Nat) (y7 : List V) (y8 y9 : Int) (y10 : Nat) (y11 : List V) : Option V :=
 need (O.R 0 122 [V.agg [V.int .i64 y5, V.sl y6 y7, V.int .i64 y8, V.int .i64 y9, V.sl y10 y11]]) fun x1 => asTup (some x1) fun x2 => PI.asBool x2[0]? fun x3 => bif !x3 then some (V.tup [V.bool false])
 else need (O.R 0 119 [V.sl y6 y7]) fun x4 => asTup (some x4) fun x5 => PI.asBool x5[0]? fun x6 => bif !x6 then some (V.tup [V.bool false]) else need (O.R 0 123 [V.sl y3 y4]) fun x7 => asTup (some x7)
 fun x8 => asOsl x8[0]? fun x9 x10 => O.L 0 95 0 [true, true, true, false, true] [] k [(0, V.sl y1 y2), (5, V.ptr 0 0), (7, V.ref 1), (21, V.ref 2), (22, V.int .i64 (↑x9 : Int)), (23, V.int .i64 0)]
 [Ob.box 108 [V.int .i64 y5, V.sl y6 y7, V.int .i64 y8, V.int .i64 y9, V.sl y10 y11] false, Ob.row 5 0 [] false, Ob.row 2 x9 x10 false]
theorem E95 (y1 y2 y3 y4 y5 y6 y7 y8 y9 y10 y11) {r : V} (h : T95 (orcE C) 0 0 0 0 y1 y2 y3 y4 y5 y6 y7
 y8 y9 y10 y11 = some r) : runE C 95 [V.sl y1 y2, V.sl y3 y4, V.agg [V.int .i64 y5, V.sl y6 y7, V.int .i64 y8, V.int .i64 y9, V.sl y10 y11]] = some r := ofR (j := 1) (F := fun s => T95 (orc C s.k) s.k
 s.m 0 0 y1 y2 y3 y4 y5 y6 y7 y8 y9 y10 y11) (fun _ => by kernel_rfl) (by
  unfold T95
  repeat' first | (with_reducible first | exact cC | refine cN cR fun _ => ?_ | refine cT fun _ => ?_ | refine cF ?_ ?_ | refine cB fun _ => ?_ | refine cO fun _ _ => ?_ | refine cN cC fun _ => ?_ | exact cR) | exact cD0 gK) h

noncomputable def T98l1 (O : Orc) (k m q0 q1 : Nat) (y1 y2 : Int) (y3 : Nat) (y4 : List V) : Option V := bif decide (y2 ≥ 0) then must (inB y2 y3) (must ([V.int .u8 (IntKind.u8.wrap
 y1)].length.beq 1 && (y2.toNat * 1 + [V.int .u8 (IntKind.u8.wrap y1)].length).ble y4.length) (O.L 0 98 0 [true, true, false, true] [] m [(0, V.int .i64 (y1.fdiv 256)), (3, V.ref 0), (4, V.int .i64
 (IntKind.i64.wrap (y2 - 1)))] [Ob.row 5 y3 (splice y4 (y2.toNat * 1) [V.int .u8 (IntKind.u8.wrap y1)]) false])) else some (V.tup [V.sl y3 y4])
theorem E98l1 (y1 y2 y3 y4) {r : V} (h : T98l1 (orcE C) 0 0 0 0 y1 y2 y3 y4 = some r) : loopE C 98 0 [true, true, false, true] [] [(0, V.int .i64 y1), (3, V.ref 0), (4,
 V.int .i64 y2)] [Ob.row 5 y3 y4 false] = some r := ofL (j := 0) (F := fun s => T98l1 (orc C s.k) s.k s.m 0 0 y1 y2 y3 y4) (fs0 fun _ _ => by kernel_rfl) (by
  unfold T98l1
  repeat' first | (with_reducible first | exact cC | refine cM ?_ | refine cF ?_ ?_) | exact cD0 gM) h

noncomputable def T127 (O : Orc) (k m q0 q1 : Nat) (y1 : Nat) (y2 : List V) : Option V := bif decide ((↑y1 : Int) > 60) then some (V.tup [V.sl 0 [], V.bool false]) else O.L 0 127 0 [true, true, true,
 false, true] [] k [(4, V.ref 0), (11, V.sl y1 y2), (12, V.int .i64 (↑y1 : Int)), (13, V.int .i64 0)] [Ob.row 5 0 [] false]
theorem E127 (y1 y2) {r : V} (h : T127 (orcE C) 0 0 0 0 y1 y2 = some r) : runE C 127 [V.sl y1 y2] = some r := ofR (j := 1) (F := fun s => T127 (orc C s.k) s.k s.m 0 0 y1 y2) (fun _ =>
 by kernel_rfl) (by
  unfold T127
  repeat' first | (with_reducible first | exact cC | refine cF ?_ ?_) | exact cD0 gK) h

noncomputable def T126 (O : Orc) (k m q0 q1 : Nat) (y1 : Nat) (y2 : List V) : Option V := O.L 0 126 0 [true, true, false, true] [] k [(3, V.ref 0), (13, V.sl y1 y2), (14, V.int .i64 (↑y1 : Int)), (15,
 V.int .i64 0)] [Ob.row 5 0 [] false]
theorem E126 (y1 y2) {r : V} (h : T126 (orcE C) 0 0 0 0 y1 y2 = some r) : runE C 126 [V.sl y1 y2] = some r := ofR (j := 1) (F := fun s => T126 (orc C s.k) s.k s.m 0 0 y1 y2) (fun _ =>
 by kernel_rfl) (by
  unfold T126
  repeat' first | with_reducible exact cC | exact cD0 gK) h

noncomputable def T110 (O : Orc) (k m q0 q1 : Nat) (y1 : Nat) (y2 : List V) (y3 y4 : Int) (y5 : Nat) (y6 : List V) (y7 : Nat) (y8 : List V) (y9 : Nat) (y10 : List V) (y11 : Nat) (y12 : List V) : Option V := O.L 0 110 0 [true, true, false, true] [] k [(0, V.sl y1 y2), (5, V.int .i64 0), (9, V.sl y11 y12), (10, V.int .i64 (↑y11 : Int)), (11, V.int .i64 0)] []
theorem E110 (y1 y2 y3 y4 y5 y6 y7 y8 y9 y10 y11 y12) {r : V} (h : T110 (orcE C) 0 0 0 0 y1
 y2 y3 y4 y5 y6 y7 y8 y9 y10 y11 y12 = some r) : runE C 110 [V.sl y1 y2, V.agg [V.int .i64 y3, V.int .i64 y4, V.sl y5 y6, V.sl y7 y8, V.sl y9 y10, V.sl y11 y12]] = some r := ofR (j := 1) (F := fun s =>
 T110 (orc C s.k) s.k s.m 0 0 y1 y2 y3 y4 y5 y6 y7 y8 y9 y10 y11 y12) (fun _ => by kernel_rfl) (by
  unfold T110
  repeat' first | with_reducible exact cC | exact cD0 gK) h

noncomputable def T99l1 (O : Orc) (k m q0 q1 : Nat) (y1 : Nat) (y2 : List V) (y3 : Nat) (y4 : List V) (y5 : Int) (y6 : Nat) (y7 : List V) (y8 y9 : Int) : Option V := bif decide (y9 < y8) then
 must (inB y9 y6) (PI.asInt .i64 y7[y9.toNat * 6]? fun x1 => PI.asInt .i64 y7[y9.toNat * 6 + 1]? fun x2 => asSl y7[y9.toNat * 6 + 1 + 1]? fun x3 x4 => PI.asInt .i64 y7[y9.toNat * 6 + 1 + 1 + 1]? fun x5
 => PI.asInt .i64 y7[y9.toNat * 6 + 1 + 1 + 1 + 1]? fun x6 => asSl y7[y9.toNat * 6 + 1 + 1 + 1 + 1 + 1]? fun x7 x8 => must (inB x1 y1) (must (decide (x1.toNat * 2 + 0 < y2.length)) (asSl y2[x1.toNat *
 2 + 0]? fun x9 x10 => need (O.R 0 120 [V.sl y3 y4, V.sl x9 x10]) fun x11 => asTup (some x11) fun x12 => PI.asInt .i64 x12[0]? fun x13 => bif decide (x13 ≥ 0) then must (inB x13 y3) (PI.asInt .i64
 y4[x13.toNat * 2 + 1]? fun x14 => O.L 0 99 0 [true, true, false, true] [] m [(0, V.sl y1 y2), (1, V.sl y3 y4), (7, V.int .i64 (IntKind.i64.wrap (y5 + x14))), (12, V.sl y6 y7), (13, V.int .i64 y8),
 (14, V.int .i64 (IntKind.i64.wrap (y9 + 1)))] []) else O.L 0 99 0 [true, true, false, true] [] m [(0, V.sl y1 y2), (1, V.sl y3 y4), (7, V.int .i64 y5), (12, V.sl y6 y7), (13, V.int .i64 y8), (14,
 V.int .i64 (IntKind.i64.wrap (y9 + 1)))] []))) else some (V.tup [V.int .i64 y5])
theorem E99l1 (y1 y2 y3 y4 y5 y6 y7 y8 y9) {r : V} (h : T99l1 (orcE C) 0 0 0 0 y1 y2 y3 y4 y5 y6 y7 y8 y9 = some r) :
 loopE C 99 0 [true, true, false, true] [] [(0, V.sl y1 y2), (1, V.sl y3 y4), (7, V.int .i64 y5), (12, V.sl y6 y7), (13, V.int .i64 y8), (14, V.int .i64 y9)] [] = some r := ofL (j := 0) (F := fun s =>
 T99l1 (orc C s.k) s.k s.m 0 0 y1 y2 y3 y4 y5 y6 y7 y8 y9) (fs0 fun _ _ => by kernel_rfl) (by
  unfold T99l1
  repeat' first | (with_reducible first | exact cC | refine cN cR fun _ => ?_ | refine cT fun _ => ?_ | refine cI fun _ => ?_ | refine cM ?_ | refine cF ?_ ?_ | refine cL fun _ _ => ?_ | refine cN cC fun _ => ?_ | exact cR) | exact cD0 gM) h

noncomputable def T100l1 (O : Orc) (k m q0 q1 : Nat) (y1 : Int) (y2 : Nat) (y3 : List V) (y4 y5 : Int) : Option V := bif decide (y5 < y4) then must (inB y5 y2) (asSl y3[y5.toNat * 2]? fun x1 x2
 => PI.asInt .i64 y3[y5.toNat * 2 + 1]? fun x3 => O.L 0 100 0 [true, true, false, true] [] m [(3, V.int .i64 (IntKind.i64.wrap (y1 + x3))), (6, V.sl y2 y3), (7, V.int .i64 y4), (8, V.int .i64
 (IntKind.i64.wrap (y5 + 1)))] []) else some (V.tup [V.int .i64 y1])
theorem E100l1 (y1 y2 y3 y4 y5) {r : V} (h : T100l1 (orcE C) 0 0 0 0 y1 y2 y3 y4 y5 = some r) : loopE C 100 0 [true, true, false, true] [] [(3, V.int .i64 y1),
 (6, V.sl y2 y3), (7, V.int .i64 y4), (8, V.int .i64 y5)] [] = some r := ofL (j := 0) (F := fun s => T100l1 (orc C s.k) s.k s.m 0 0 y1 y2 y3 y4 y5) (fs0 fun _ _ => by kernel_rfl) (by
  unfold T100l1
  repeat' first | (with_reducible first | exact cC | refine cI fun _ => ?_ | refine cM ?_ | refine cF ?_ ?_ | refine cL fun _ _ => ?_) | exact cD0 gM) h

noncomputable def T128 (O : Orc) (k m q0 q1 : Nat) (y1 : Nat) (y2 : List V) : Option V := bif y1.beq (OfNat.ofNat 0) then both (some (V.tup [V.osl 0 []])) (must (decide (y2.length = y1 * 1)) (must
 (true && (0 + y1).ble 140737488355328 && ((0 + y1) * 1).ble 140737488355328) (must (false || y2.all flatV) (some (V.tup [V.osl (0 + y1) y2]))))) else must (decide (y2.length = y1 * 1)) (must (true &&
 (0 + y1).ble 140737488355328 && ((0 + y1) * 1).ble 140737488355328) (must (false || y2.all flatV) (some (V.tup [V.osl (0 + y1) y2]))))
theorem E128 (y1 y2) {r : V} (h : T128 (orcE C) 0 0 0 0 y1 y2 = some r) : runE C 128 [V.sl y1 y2] = some r := ofR (j := 1) (F := fun s => T128 (orc C s.k) s.k s.m 0 0 y1 y2) (fun _ =>
 by kernel_rfl) (by
  unfold T128
  repeat' first | (with_reducible first | exact cC | refine cM ?_ | refine cF ?_ ?_ | refine cW ?_ ?_)) h

noncomputable def T102l1 (O : Orc) (k m q0 q1 : Nat) (y1 : Nat) (y2 : List V) (y3 y4 : Int) (y5 : Nat) (y6 : List V) : Option V := bif decide (y4 < y3) then must (inB y4 y1) (asSl y2[y4.toNat *
 2]? fun x1 x2 => PI.asInt .i64 y2[y4.toNat * 2 + 1]? fun x3 => need (O.R 0 128 [V.sl x1 x2]) fun x4 => asTup (some x4) fun x5 => asOsl x5[0]? fun x6 x7 => must (x7.all flatV) (must (true && (y5 +
 1).ble 140737488355328 && ((y5 + 1) * 32).ble 140737488355328) (O.L 0 102 0 [true, true, false, true] [] m [(3, V.ref 0), (7, V.sl y1 y2), (8, V.int .i64 y3), (9, V.int .i64 (IntKind.i64.wrap (y4 +
 1)))] [Ob.nrow [] 78 (y5 + 1) (y6 ++ [V.own false 5 1 x6 x7, V.int .i64 x3])]))) else some (V.tup [V.osl y5 y6])
theorem E102l1 (y1 y2 y3 y4 y5 y6) {r : V} (h : T102l1 (orcE C) 0 0 0 0 y1 y2 y3 y4 y5 y6 = some r) : loopE C 102 0 [true, true, false, true] [] [(3,
 V.ref 0), (7, V.sl y1 y2), (8, V.int .i64 y3), (9, V.int .i64 y4)] [Ob.nrow [] 78 y5 y6] = some r := ofL (j := 0) (F := fun s => T102l1 (orc C s.k) s.k s.m 0 0 y1 y2 y3 y4 y5 y6) (fs0 fun _ _ => by
 kernel_rfl) (by
  unfold T102l1
  repeat' first | (with_reducible first | exact cC | refine cN cR fun _ => ?_ | refine cT fun _ => ?_ | refine cI fun _ => ?_ | refine cM ?_ | refine cF ?_ ?_ | refine cL fun _ _ => ?_ | refine cO fun _ _ => ?_ | refine cN cC fun _ => ?_ | exact cR) | exact cD0 gM) h

noncomputable def T103l1 (O : Orc) (k m q0 q1 : Nat) (y1 : Nat) (y2 : List V) (y3 y4 : Int) (y5 : Nat) (y6 : List V) : Option V := bif decide (y4 < y3) then must (inB y4 y1) (must (decide
 (y4.toNat * 1 < y2.length)) (asSl y2[y4.toNat * 1]? fun x1 x2 => need (O.R 0 128 [V.sl x1 x2]) fun x3 => asTup (some x3) fun x4 => asOsl x4[0]? fun x5 x6 => must (x6.all flatV) (must (true && (y5 +
 1).ble 140737488355328 && ((y5 + 1) * 24).ble 140737488355328) (O.L 0 103 0 [true, true, false, true] [] m [(3, V.ref 0), (7, V.sl y1 y2), (8, V.int .i64 y3), (9, V.int .i64 (IntKind.i64.wrap (y4 +
 1)))] [Ob.nrow [] 22 (y5 + 1) (y6 ++ [V.own false 5 1 x5 x6])])))) else some (V.tup [V.osl y5 y6])
theorem E103l1 (y1 y2 y3 y4 y5 y6) {r : V} (h : T103l1 (orcE C) 0 0 0 0 y1 y2 y3 y4 y5 y6 = some r) : loopE C 103 0 [true, true, false, true] [] [(3,
 V.ref 0), (7, V.sl y1 y2), (8, V.int .i64 y3), (9, V.int .i64 y4)] [Ob.nrow [] 22 y5 y6] = some r := ofL (j := 0) (F := fun s => T103l1 (orc C s.k) s.k s.m 0 0 y1 y2 y3 y4 y5 y6) (fs0 fun _ _ => by
 kernel_rfl) (by
  unfold T103l1
  repeat' first | (with_reducible first | exact cC | refine cN cR fun _ => ?_ | refine cT fun _ => ?_ | refine cM ?_ | refine cF ?_ ?_ | refine cL fun _ _ => ?_ | refine cO fun _ _ => ?_ | refine cN cC fun _ => ?_ | exact cR) | exact cD0 gM) h

noncomputable def T129 (O : Orc) (k m q0 q1 : Nat) (y1 : Int) (y2 : Nat) (y3 : List V) (y4 y5 : Int) (y6 : Nat) (y7 : List V) (y8 : Int) (y9 : Nat) (y10 : List V) (y11 y12 : Int) (y13 :
 Nat) (y14 : List V) : Option V := bif y1 != y8 then some (V.tup [V.bool false]) else need (O.R 0 54 [V.sl y2 y3, V.sl y9 y10]) fun x1 => asTup (some x1) fun x2 => PI.asBool x2[0]? fun x3 => bif !x3
 then some (V.tup [V.bool false]) else need (O.R 0 153 [V.agg [V.int .i64 y4, V.int .i64 y5, V.sl y6 y7], V.agg [V.int .i64 y11, V.int .i64 y12, V.sl y13 y14]]) fun x4 => asTup (some x4) fun x5 =>
 PI.asBool x5[0]? fun x6 => bif !x6 then some (V.tup [V.bool false]) else some (V.tup [V.bool true])
theorem E129 (y1 y2 y3 y4 y5 y6 y7 y8 y9 y10 y11 y12 y13 y14) {r : V} (h : T129
 (orcE C) 0 0 0 0 y1 y2 y3 y4 y5 y6 y7 y8 y9 y10 y11 y12 y13 y14 = some r) : runE C 129 [V.agg [V.int .i64 y1, V.sl y2 y3, V.int .i64 y4, V.int .i64 y5, V.sl y6 y7], V.agg [V.int .i64 y8, V.sl y9 y10,
 V.int .i64 y11, V.int .i64 y12, V.sl y13 y14]] = some r := ofR (j := 1) (F := fun s => T129 (orc C s.k) s.k s.m 0 0 y1 y2 y3 y4 y5 y6 y7 y8 y9 y10 y11 y12 y13 y14) (fun _ => by kernel_rfl) (by
  unfold T129
  repeat' first | (with_reducible first | exact cC | refine cN cR fun _ => ?_ | refine cT fun _ => ?_ | refine cF ?_ ?_ | refine cB fun _ => ?_ | refine cN cC fun _ => ?_ | exact cR)) h

noncomputable def T130l1 (O : Orc) (k m q0 q1 : Nat) (y1 : Nat) (y2 : List V) (y3 y4 : Int) : Option V := bif decide (y4 < (↑y1 : Int)) then must (inB y4 y1) (PI.asInt .u8 y2[y4.toNat * 1]? fun
 x1 => bif x1 != IntKind.u8.wrap y3 then some (V.tup [V.int .i64 (-1)]) else O.L 0 130 0 [true, false, true] [] m [(0, V.sl y1 y2), (1, V.int .i64 (IntKind.i64.wrap (y3 + 1))), (5, V.int .i64
 (IntKind.i64.wrap (y4 + 1)))] []) else some (V.tup [V.int .i64 y3])
theorem E130l1 (y1 y2 y3 y4) {r : V} (h : T130l1 (orcE C) 0 0 0 0 y1 y2 y3 y4 = some r) : loopE C 130 0 [true, false, true] [] [(0, V.sl y1 y2), (1, V.int .i64 y3), (5,
 V.int .i64 y4)] [] = some r := ofL (j := 0) (F := fun s => T130l1 (orc C s.k) s.k s.m 0 0 y1 y2 y3 y4) (fs0 fun _ _ => by kernel_rfl) (by
  unfold T130l1
  repeat' first | (with_reducible first | exact cC | refine cI fun _ => ?_ | refine cM ?_ | refine cF ?_ ?_) | exact cD0 gM) h

noncomputable def T131 (O : Orc) (k m q0 q1 : Nat) (y1 y2 : Int) (y3 : Nat) (y4 : List V) (y5 : Int) : Option V := need (O.R 0 31 [V.sl y3 y4, V.int .i64 y5]) fun x1 => asTup (some x1) fun x2
 => PI.asInt .i64 x2[0]? fun x3 => bif decide (x3 < 0) then some (V.tup [V.int .i64 (-1)]) else some (V.tup [V.int .i64 x3])
theorem E131 (y1 y2 y3 y4 y5) {r : V} (h : T131 (orcE C) 0 0 0 0 y1 y2 y3 y4 y5 = some r) : runE C 131 [V.agg [V.int .i64 y1, V.int .i64 y2, V.sl y3 y4], V.int
 .i64 y5] = some r := ofR (j := 1) (F := fun s => T131 (orc C s.k) s.k s.m 0 0 y1 y2 y3 y4 y5) (fun _ => by kernel_rfl) (by
  unfold T131
  repeat' first | (with_reducible first | exact cC | refine cN cR fun _ => ?_ | refine cT fun _ => ?_ | refine cI fun _ => ?_ | refine cF ?_ ?_ | refine cN cC fun _ => ?_ | exact cR)) h

noncomputable def T142 (O : Orc) (k m q0 q1 : Nat) (y1 y2 : Int) (y3 : Nat) (y4 : List V) : Option V := need (O.R 0 43 [V.sl y3 y4]) fun x1 => asTup (some x1) fun x2 => asOsl x2[0]? fun x3 x4
 => some (V.tup [V.int .i64 y1, V.int .i64 y2, V.osl x3 x4])
theorem E142 (y1 y2 y3 y4) {r : V} (h : T142 (orcE C) 0 0 0 0 y1 y2 y3 y4 = some r) : runE C 142 [V.agg [V.int .i64 y1, V.int .i64 y2, V.sl y3 y4]] = some r := ofR (j
 := 1) (F := fun s => T142 (orc C s.k) s.k s.m 0 0 y1 y2 y3 y4) (fun _ => by kernel_rfl) (by
  unfold T142
  repeat' first | (with_reducible first | exact cC | refine cN cR fun _ => ?_ | refine cT fun _ => ?_ | refine cO fun _ _ => ?_ | refine cN cC fun _ => ?_ | exact cR)) h

noncomputable def T132 (O : Orc) (k m q0 q1 : Nat) (y1 y2 : Int) (y3 : Nat) (y4 : List V) : Option V := need (O.R 0 154 [V.int .i64 y2, V.int .i64 y1]) fun x1 => asTup (some x1) fun x2 =>
 PI.asInt .i64 x2[0]? fun x3 => PI.asInt .i64 x2[1]? fun x4 => bif x3 != 0 then some (V.tup [V.bool false]) else bif (↑y3 : Int) != x4 then some (V.tup [V.bool false]) else O.L 0 132 0 [true, true,
 true, false, true] [] k [(1, V.ptr 0 0), (4, V.int .i64 0)] [Ob.box 106 [V.int .i64 y1, V.int .i64 y2, V.sl y3 y4] false]
theorem E132 (y1 y2 y3 y4) {r : V} (h : T132 (orcE C) 0 0 0 0 y1 y2 y3 y4 = some r) : runE C 132 [V.agg [V.int .i64 y1, V.int .i64 y2, V.sl y3 y4]] = some r := ofR (j
 := 1) (F := fun s => T132 (orc C s.k) s.k s.m 0 0 y1 y2 y3 y4) (fun _ => by kernel_rfl) (by
  unfold T132
  repeat' first | (with_reducible first | exact cC | refine cN cR fun _ => ?_ | refine cT fun _ => ?_ | refine cI fun _ => ?_ | refine cF ?_ ?_ | refine cN cC fun _ => ?_ | exact cR) | exact cD0 gK) h

noncomputable def T114l1 (O : Orc) (k m q0 q1 : Nat) (y1 y2 : Int) (y3 : Nat) (y4 : List V) (y5 : Nat) (y6 : List V) : Option V := bif decide (y2 < 4) then O.L 0 114 2 [true, true, true, true,
 false, true, false, true, false, false, true] [m] k [(3, V.ref 0), (4, V.ref 1), (5, V.int .i64 y1), (6, V.int .i64 y2), (7, V.int .i64 3)] [Ob.row 5 y3 y4 false, Ob.row 2 y5 y6 false] else must (true
 && (y5 + 3).ble 140737488355328 && ((y5 + 3) * 8).ble 140737488355328) (must (false || (y6 ++ [V.int .i64 (IntKind.i64.wrap (y1.tdiv 16)), V.int .i64 ((IntKind.i64.wrap (y1.tdiv 4)).tmod 4), V.int
 .i64 (y1.tmod 4)]).all flatV) (some (V.tup [V.osl (y5 + 3) (y6 ++ [V.int .i64 (IntKind.i64.wrap (y1.tdiv 16)), V.int .i64 ((IntKind.i64.wrap (y1.tdiv 4)).tmod 4), V.int .i64 (y1.tmod 4)])])))
theorem E114l1 (y1 y2 y3 y4 y5 y6) {r : V} (h : T114l1 (orcE C) 0 0 0 0 y1 y2 y3 y4 y5 y6 = some r) : loopE C 114 0 [true, true, true, true, false,
 true] [] [(3, V.ref 0), (4, V.ref 1), (5, V.int .i64 y1), (6, V.int .i64 y2)] [Ob.row 5 y3 y4 false, Ob.row 2 y5 y6 false] = some r := ofL (j := 0) (F := fun s => T114l1 (orc C s.k) s.k s.m 0 0 y1 y2
 y3 y4 y5 y6) (fs0 fun _ _ => by kernel_rfl) (by
  unfold T114l1
  repeat' first | (with_reducible first | exact cC | refine cM ?_ | refine cF ?_ ?_) | exact cD1 gK gM) h

noncomputable def T115 (O : Orc) (k m q0 q1 : Nat) (y1 : Nat) (y2 : List V) (y3 : Int) : Option V := O.L 0 115 0 [true, false] [] k [(0, V.sl y1 y2), (1, V.int .i64 y3)] []
theorem E115 (y1 y2 y3) {r : V} (h : T115 (orcE C) 0 0 0 0 y1 y2 y3 = some r) : runE C 115 [V.sl y1 y2, V.int .i64 y3] = some r := ofR (j := 1) (F := fun s => T115 (orc C s.k)
 s.k s.m 0 0 y1 y2 y3) (fun _ => by kernel_rfl) (by
  unfold T115
  repeat' first | with_reducible exact cC | exact cD0 gK) h

noncomputable def T116 (O : Orc) (k m q0 q1 : Nat) (y1 : Nat) (y2 : List V) (y3 : Nat) (y4 : List V) (y5 y6 : Int) (y7 : Nat) (y8 : List V) : Option V := need (O.R 0 132 [V.agg [V.int .i64 y5,
 V.int .i64 y6, V.sl y7 y8]]) fun x1 => asTup (some x1) fun x2 => PI.asBool x2[0]? fun x3 => bif !x3 then some (V.tup [V.bool false]) else need (O.R 0 133 [V.sl y3 y4]) fun x4 => asTup (some x4) fun x5
 => asOsl x5[0]? fun x6 x7 => need (O.R 0 134 [V.int .i64 y6, V.int .i64 y5]) fun x8 => asTup (some x8) fun x9 => asOsl x9[0]? fun x10 x11 => O.L 0 116 0 [true, true, true, true, false, true] [] k [(0,
 V.sl y1 y2), (5, V.ptr 0 0), (7, V.ref 1), (8, V.ref 2), (9, V.int .i64 0)] [Ob.box 106 [V.int .i64 y5, V.int .i64 y6, V.sl y7 y8] false, Ob.row 5 x6 x7 false, Ob.row 4 x10 x11 false]
theorem E116 (y1 y2 y3 y4 y5 y6 y7 y8) {r : V} (h : T116 (orcE C) 0 0 0 0 y1 y2 y3 y4 y5 y6 y7 y8 = some r) : runE C 116 [V.sl y1
 y2, V.sl y3 y4, V.agg [V.int .i64 y5, V.int .i64 y6, V.sl y7 y8]] = some r := ofR (j := 1) (F := fun s => T116 (orc C s.k) s.k s.m 0 0 y1 y2 y3 y4 y5 y6 y7 y8) (fun _ => by kernel_rfl) (by
  unfold T116
  repeat' first | (with_reducible first | exact cC | refine cN cR fun _ => ?_ | refine cT fun _ => ?_ | refine cF ?_ ?_ | refine cB fun _ => ?_ | refine cO fun _ _ => ?_ | refine cN cC fun _ => ?_ | exact cR) | exact cD0 gK) h

noncomputable def T138l1 (O : Orc) (k m q0 q1 : Nat) (y1 : Nat) (y2 : List V) (y3 : Nat) (y4 : List V) : Option V := bif (↑y3 : Int).tmod 64 != 56 then must (true && (y3 + 1).ble 140737488355328 &&
 ((y3 + 1) * 1).ble 140737488355328) (O.L 0 138 0 [true, true, false] [] m [(0, V.sl y1 y2), (3, V.ref 0)] [Ob.row 5 (y3 + 1) (y4 ++ [V.int .u8 0]) false]) else O.L 0 138 2 [true, true, true, true,
 false, true] [] k [(3, V.ref 0), (4, V.int .i64 (IntKind.i64.wrap ((↑y1 : Int) * 8))), (5, V.int .i64 7)] [Ob.row 5 y3 y4 false]
theorem E138l1 (y1 y2 y3 y4) {r : V} (h : T138l1 (orcE C) 0 0 0 0 y1 y2 y3 y4 = some r) : loopE C 138 0 [true, true, false] [] [(0, V.sl y1 y2), (3, V.ref 0)]
 [Ob.row 5 y3 y4 false] = some r := ofL (j := 0) (F := fun s => T138l1 (orc C s.k) s.k s.m 0 0 y1 y2 y3 y4) (fs0 fun _ _ => by kernel_rfl) (by
  unfold T138l1
  repeat' first | (with_reducible first | exact cC | refine cM ?_ | refine cF ?_ ?_) | exact cD0 gK | exact cD0 gM) h

noncomputable def T117l2 (O : Orc) (k m q0 q1 : Nat) (y1 : Nat) (y2 : List V) (y3 y4 : Int) (y5 y6 y7 : List V) : Option V := bif decide (y4 < 16) then must (decide (0 ≤
 IntKind.i64.wrap (IntKind.i64.wrap (y3 + IntKind.i64.wrap (4 * y4)) + 4)) && decide (IntKind.i64.wrap (IntKind.i64.wrap (y3 + IntKind.i64.wrap (4 * y4)) + 4) ≤ (↑y1 : Int))) (must (decide (0 ≤
 IntKind.i64.wrap (y3 + IntKind.i64.wrap (4 * y4))) && decide (IntKind.i64.wrap (y3 + IntKind.i64.wrap (4 * y4)) ≤ (↑(IntKind.i64.wrap (IntKind.i64.wrap (y3 + IntKind.i64.wrap (4 * y4)) + 4)).toNat :
 Int))) (need (O.R 0 139 [V.sl ((IntKind.i64.wrap (IntKind.i64.wrap (y3 + IntKind.i64.wrap (4 * y4)) + 4)).toNat - (IntKind.i64.wrap (y3 + IntKind.i64.wrap (4 * y4))).toNat) (List.take
 (((IntKind.i64.wrap (IntKind.i64.wrap (y3 + IntKind.i64.wrap (4 * y4)) + 4)).toNat - (IntKind.i64.wrap (y3 + IntKind.i64.wrap (4 * y4))).toNat) * 1) (List.drop ((IntKind.i64.wrap (y3 +
 IntKind.i64.wrap (4 * y4))).toNat * 1) y2))]) fun x1 => asTup (some x1) fun x2 => PI.asInt .i64 x2[0]? fun x3 => must (inB y4 64) (must ((V.int .i64 x3).solid && true && (0 + y4.toNat * 1 + 1).ble
 y7.length && flatB C 148 [V.int .i64 x3]) (O.L 0 117 2 [true, true, true, true, false, true, false, true, false, false, true, false, true] [q0] m [(3, V.ptr 0 0), (4, V.ptr 1 0), (5, V.sl y1 y2), (6,
 V.int .i64 y3), (7, V.ptr 2 0), (8, V.int .i64 (IntKind.i64.wrap (y4 + 1)))] [Ob.box 148 y5 false, Ob.box 150 y6 false, Ob.box 148 (splice y7 (0 + y4.toNat * 1) [V.int .i64 x3]) false])))) else O.L 0
 117 4 [true, true, true, true, false, true, false, true, false, false, true, true, false, true] [q0] k [(3, V.ptr 0 0), (4, V.ptr 1 0), (5, V.sl y1 y2), (6, V.int .i64 y3), (7, V.ptr 2 0), (9, V.int
 .i64 16)] [Ob.box 148 y5 false, Ob.box 150 y6 false, Ob.box 148 y7 false]
theorem E117l2 (y1 y2 y3 y4 y5 y6 y7) {r : V} (h : T117l2 (orcE C) 0 0 0 0 y1 y2 y3 y4 y5 y6 y7 = some r) : loopE C 117 2 [true, true,
 true, true, false, true, false, true, false, false, true, false, true] [0] [(3, V.ptr 0 0), (4, V.ptr 1 0), (5, V.sl y1 y2), (6, V.int .i64 y3), (7, V.ptr 2 0), (8, V.int .i64 y4)] [Ob.box 148 y5
 false, Ob.box 150 y6 false, Ob.box 148 y7 false] = some r := ofL (j := 0) (F := fun s => T117l2 (orc C s.k) s.k s.m (s.fs.getD 0 0) 0 y1 y2 y3 y4 y5 y6 y7) (fs1 fun _ _ _ => by kernel_rfl) (by
  unfold T117l2
  repeat' first | (with_reducible first | exact cC | refine cN cR fun _ => ?_ | refine cT fun _ => ?_ | refine cI fun _ => ?_ | refine cM ?_ | refine cF ?_ ?_ | refine cN cC fun _ => ?_ | exact cR) | exact cD1 gK (gF (i := 0) (by decide)) | exact cD1 gM (gF (i := 0) (by decide))) h

noncomputable def T117l3 (O : Orc) (k m q0 q1 : Nat) (y1 : Int) (y2 : List V) (y3 : Nat) (y4 : List V) : Option V := bif decide (y1 < 8) then O.L 0 117 12 [true, true, true, true, true, true, false,
 true, false, true, false, false, true] [m] k [(4, V.ptr 0 0), (17, V.ref 1), (18, V.int .i64 y1), (19, V.int .i64 3)] [Ob.box 150 y2 false, Ob.row 5 y3 y4 false] else must (false || y4.all flatV)
 (some (V.tup [V.osl y3 y4]))
theorem E117l3 (y1 y2 y3 y4) {r : V} (h : T117l3 (orcE C) 0 0 0 0 y1 y2 y3 y4 = some r) : loopE C 117 10 [true, true, true, true, true, true, false, true] [] [(4,
 V.ptr 0 0), (17, V.ref 1), (18, V.int .i64 y1)] [Ob.box 150 y2 false, Ob.row 5 y3 y4 false] = some r := ofL (j := 0) (F := fun s => T117l3 (orc C s.k) s.k s.m 0 0 y1 y2 y3 y4) (fs0 fun _ _ => by
 kernel_rfl) (by
  unfold T117l3
  repeat' first | (with_reducible first | exact cC | refine cM ?_ | refine cF ?_ ?_) | exact cD1 gK gM) h

noncomputable def T121s2 (O : Orc) (k m q0 q1 : Nat) (y1 : Nat) (y2 : List V) : Option V := O.L 0 121 0 [true, false, true] [] k [(0, V.sl y1 y2), (1, V.fn 143 []), (7, V.int .i64 (↑y1 : Int)), (8,
 V.int .i64 0)] []
theorem E121s2 (y1 y2) {r : V} (h : T121s2 (orcE C) 0 0 0 0 y1 y2 = some r) : runE C 121 [V.sl y1 y2, V.fn 143 []] = some r := ofR (j := 1) (F := fun s => T121s2 (orc C s.k) s.k s.m 0
 0 y1 y2) (fun _ => by kernel_rfl) (by
  unfold T121s2
  repeat' first | with_reducible exact cC | exact cD0 gK) h

noncomputable def T144 (O : Orc) (k m q0 q1 : Nat) (y1 : Nat) (y2 : List V) (y3 : Nat) (y4 : List V) : Option V := O.L 0 144 0 [true, false, true] [] k [(0, V.sl y1 y2), (1, V.fn 145 [V.pin [V.sl y3
 y4] 0]), (7, V.int .i64 (↑y1 : Int)), (8, V.int .i64 0)] []
theorem E144 (y1 y2 y3 y4) {r : V} (h : T144 (orcE C) 0 0 0 0 y1 y2 y3 y4 = some r) : runE C 144 [V.sl y1 y2, V.fn 145 [V.pin [V.sl y3 y4] 0]] = some r := ofR (j :=
 1) (F := fun s => T144 (orc C s.k) s.k s.m 0 0 y1 y2 y3 y4) (fun _ => by kernel_rfl) (by
  unfold T144
  repeat' first | with_reducible exact cC | exact cD0 gK) h

noncomputable def T93 (O : Orc) (k m q0 q1 : Nat) (y1 : Nat) (y2 : List V) : Option V := bif decide ((↑y1 : Int) > 0) then need (O.R 0 94 [V.sl y1 y2]) fun x1 => asTup (some x1) fun x2 => PI.asBool
 x2[0]? fun x3 => some (V.tup [V.bool !x3]) else some (V.tup [V.bool false])
theorem E93 (y1 y2) {r : V} (h : T93 (orcE C) 0 0 0 0 y1 y2 = some r) : runE C 93 [V.sl y1 y2] = some r := ofR (j := 1) (F := fun s => T93 (orc C s.k) s.k s.m 0 0 y1 y2) (fun _ => by
 kernel_rfl) (by
  unfold T93
  repeat' first | (with_reducible first | exact cC | refine cN cR fun _ => ?_ | refine cT fun _ => ?_ | refine cF ?_ ?_ | refine cB fun _ => ?_ | refine cN cC fun _ => ?_ | exact cR)) h

noncomputable def T122 (O : Orc) (k m q0 q1 : Nat) (y1 : Int) (y2 : Nat) (y3 : List V) (y4 y5 : Int) (y6 : Nat) (y7 : List V) : Option V := need (O.R 0 146 [V.int .i64 y1]) fun x1 => asTup
 (some x1) fun x2 => PI.asBool x2[0]? fun x3 => bif x3 then bif (↑y2 : Int) == 19 then bif y4 == y1 then some (V.tup [V.bool (y5 == 4)]) else some (V.tup [V.bool false]) else some (V.tup [V.bool
 false]) else some (V.tup [V.bool false])
theorem E122 (y1 y2 y3 y4 y5 y6 y7) {r : V} (h : T122 (orcE C) 0 0 0 0 y1 y2 y3 y4 y5 y6 y7 = some r) : runE C 122 [V.agg [V.int .i64 y1,
 V.sl y2 y3, V.int .i64 y4, V.int .i64 y5, V.sl y6 y7]] = some r := ofR (j := 1) (F := fun s => T122 (orc C s.k) s.k s.m 0 0 y1 y2 y3 y4 y5 y6 y7) (fun _ => by kernel_rfl) (by
  unfold T122
  repeat' first | (with_reducible first | exact cC | refine cN cR fun _ => ?_ | refine cT fun _ => ?_ | refine cF ?_ ?_ | refine cB fun _ => ?_ | refine cN cC fun _ => ?_ | exact cR)) h

noncomputable def T123 (O : Orc) (k m q0 q1 : Nat) (y1 : Nat) (y2 : List V) : Option V := need (O.R 0 96 [V.str { data := #[(109 : UInt8), (101 : UInt8), (115 : UInt8), (115 : UInt8), (97 : UInt8),
 (103 : UInt8), (101 : UInt8)] }, V.sl 1 [V.sl y1 y2]]) fun x1 => asTup (some x1) fun x2 => asOsl x2[0]? fun x3 x4 => must (true && decide (4 ≤ (↑x3 : Int))) (O.L 0 123 0 [true, true, false, true] [] k
 [(3, V.ref 0), (4, V.int .i64 0), (13, V.sl 4 (List.take 4 (List.drop 0 x4))), (14, V.int .i64 4), (15, V.int .i64 0)] [Ob.row 2 0 [] false])
theorem E123 (y1 y2) {r : V} (h : T123 (orcE C) 0 0 0 0 y1 y2 = some r) : runE C 123 [V.sl y1 y2] = some r := ofR (j := 1) (F := fun s => T123 (orc C s.k) s.k s.m 0 0 y1 y2) (fun _ =>
 by kernel_rfl) (by
  unfold T123
  repeat' first | (with_reducible first | exact cC | refine cN cR fun _ => ?_ | refine cT fun _ => ?_ | refine cM ?_ | refine cO fun _ _ => ?_ | refine cN cC fun _ => ?_ | exact cR) | exact cD0 gK) h

noncomputable def T95l1 (O : Orc) (k m q0 q1 : Nat) (y1 : Nat) (y2 : List V) (y3 y4 y5 : Int) (y6 : Nat) (y7 : List V) (y8 y9 : Int) (y10 : Nat) (y11 : List V) (y12 : Nat) (y13
 : List V) (y14 : Nat) (y15 : List V) : Option V := bif decide (y4 < y3) then must (inB y4 y14) (PI.asInt .i64 y15[y4.toNat * 1]? fun x1 => must (inB y4 y6) (must (decide (y4.toNat * 1 < y7.length))
 (asSl y7[y4.toNat * 1]? fun x2 x3 => need (O.R 0 124 [V.sl x2 x3, V.int .i64 (IntKind.i64.wrap (3 - x1))]) fun x4 => asTup (some x4) fun x5 => asOsl x5[0]? fun x6 x7 => must (decide (x7.length = x6 *
 1)) (must (true && (y12 + x6).ble 140737488355328 && ((y12 + x6) * 1).ble 140737488355328) (O.L 0 95 0 [true, true, true, false, true] [] m [(0, V.sl y1 y2), (5, V.ptr 0 0), (7, V.ref 1), (21, V.ref
 2), (22, V.int .i64 y3), (23, V.int .i64 (IntKind.i64.wrap (y4 + 1)))] [Ob.box 108 [V.int .i64 y5, V.sl y6 y7, V.int .i64 y8, V.int .i64 y9, V.sl y10 y11] false, Ob.row 5 (y12 + x6) (y13 ++ x7) false,
 Ob.row 2 y14 y15 false]))))) else need (O.R 0 125 [V.sl y1 y2, V.sl y12 y13, V.agg [V.int .i64 y8, V.int .i64 y9, V.sl y10 y11]]) fun x8 => asTup (some x8) fun x9 => PI.asBool x9[0]? fun x10 => some
 (V.tup [V.bool x10])
theorem E95l1 (y1 y2 y3 y4 y5 y6 y7 y8 y9 y10 y11 y12 y13 y14 y15) {r : V} (h : T95l1 (orcE C) 0 0 0 0 y1 y2 y3 y4 y5 y6 y7 y8 y9 y10 y11 y12 y13 y14 y15 = some r) : loopE C 95 0 [true, true, true, false, true] [] [(0, V.sl y1 y2), (5, V.ptr 0 0), (7, V.ref 1), (21,
 V.ref 2), (22, V.int .i64 y3), (23, V.int .i64 y4)] [Ob.box 108 [V.int .i64 y5, V.sl y6 y7, V.int .i64 y8, V.int .i64 y9, V.sl y10 y11] false, Ob.row 5 y12 y13 false, Ob.row 2 y14 y15 false] = some r
 := ofL (j := 0) (F := fun s => T95l1 (orc C s.k) s.k s.m 0 0 y1 y2 y3 y4 y5 y6 y7 y8 y9 y10 y11 y12 y13 y14 y15) (fs0 fun _ _ => by kernel_rfl) (by
  unfold T95l1
  repeat' first | (with_reducible first | exact cC | refine cN cR fun _ => ?_ | refine cT fun _ => ?_ | refine cI fun _ => ?_ | refine cM ?_ | refine cF ?_ ?_ | refine cB fun _ => ?_ | refine cL fun _ _ => ?_ | refine cO fun _ _ => ?_ | refine cN cC fun _ => ?_ | exact cR) | exact cD0 gM) h

noncomputable def T127l1 (O : Orc) (k m q0 q1 : Nat) (y1 : Nat) (y2 : List V) (y3 y4 : Int) (y5 : Nat) (y6 : List V) : Option V := bif decide (y4 < y3) then must (inB y4 y1) (must (decide
 (y4.toNat * 1 < y2.length)) (asSl y2[y4.toNat * 1]? fun x1 x2 => bif decide ((↑x1 : Int) > 200) then some (V.tup [V.sl 0 [], V.bool false]) else asSl y2[y4.toNat * 1]? fun x3 x4 => bif decide
 (IntKind.i64.wrap (IntKind.i64.wrap ((↑y5 : Int) + 1) + (↑x3 : Int)) > 4000) then some (V.tup [V.sl 0 [], V.bool false]) else asSl y2[y4.toNat * 1]? fun x5 x6 => must (true && (y5 + 1).ble
 140737488355328 && ((y5 + 1) * 1).ble 140737488355328) (asSl y2[y4.toNat * 1]? fun x7 x8 => must (decide (x8.length = x7 * 1)) (must (true && (y5 + 1 + x7).ble 140737488355328 && ((y5 + 1 + x7) *
 1).ble 140737488355328) (O.L 0 127 0 [true, true, true, false, true] [] m [(4, V.ref 0), (11, V.sl y1 y2), (12, V.int .i64 y3), (13, V.int .i64 (IntKind.i64.wrap (y4 + 1)))] [Ob.row 5 (y5 + 1 + x7)
 (y6 ++ [V.int .u8 (IntKind.u8.wrap (↑x5 : Int))] ++ x8) false]))))) else some (V.tup [V.sl y5 y6, V.bool true])
theorem E127l1 (y1 y2 y3 y4 y5 y6) {r : V} (h : T127l1 (orcE C) 0 0 0 0 y1 y2 y3 y4 y5 y6 = some r) : loopE C 127 0 [true, true, true, false, true]
 [] [(4, V.ref 0), (11, V.sl y1 y2), (12, V.int .i64 y3), (13, V.int .i64 y4)] [Ob.row 5 y5 y6 false] = some r := ofL (j := 0) (F := fun s => T127l1 (orc C s.k) s.k s.m 0 0 y1 y2 y3 y4 y5 y6) (fs0 fun
 _ _ => by kernel_rfl) (by
  unfold T127l1
  repeat' first | (with_reducible first | exact cC | refine cM ?_ | refine cF ?_ ?_ | refine cL fun _ _ => ?_) | exact cD0 gM) h

noncomputable def T126l1 (O : Orc) (k m q0 q1 : Nat) (y1 : Nat) (y2 : List V) (y3 y4 : Int) (y5 : Nat) (y6 : List V) : Option V := bif decide (y4 < y3) then must (inB y4 y1) (must (decide
 (y4.toNat * 1 < y2.length)) (asSl y2[y4.toNat * 1]? fun x1 x2 => must (decide (x2.length = x1 * 1)) (must (true && (y5 + x1).ble 140737488355328 && ((y5 + x1) * 1).ble 140737488355328) (O.L 0 126 0
 [true, true, false, true] [] m [(3, V.ref 0), (13, V.sl y1 y2), (14, V.int .i64 y3), (15, V.int .i64 (IntKind.i64.wrap (y4 + 1)))] [Ob.row 5 (y5 + x1) (y6 ++ x2) false])))) else must (true && (y5 +
 1).ble 140737488355328 && ((y5 + 1) * 1).ble 140737488355328) (O.L 0 126 2 [true, true, true, true, true, false] [] k [(3, V.ref 0), (6, V.int .u64 (IntKind.u64.wrap (IntKind.u64.wrap (↑y5 : Int) *
 8)))] [Ob.row 5 (y5 + 1) (y6 ++ [V.int .u8 128]) false])
theorem E126l1 (y1 y2 y3 y4 y5 y6) {r : V} (h : T126l1 (orcE C) 0 0 0 0 y1 y2 y3 y4 y5 y6 = some r) : loopE C 126 0 [true, true, false, true] [] [(3,
 V.ref 0), (13, V.sl y1 y2), (14, V.int .i64 y3), (15, V.int .i64 y4)] [Ob.row 5 y5 y6 false] = some r := ofL (j := 0) (F := fun s => T126l1 (orc C s.k) s.k s.m 0 0 y1 y2 y3 y4 y5 y6) (fs0 fun _ _ =>
 by kernel_rfl) (by
  unfold T126l1
  repeat' first | (with_reducible first | exact cC | refine cM ?_ | refine cF ?_ ?_ | refine cL fun _ _ => ?_) | exact cD0 gK | exact cD0 gM) h

noncomputable def T110l1 (O : Orc) (k m q0 q1 : Nat) (y1 : Nat) (y2 : List V) (y3 : Int) (y4 : Nat) (y5 : List V) (y6 y7 : Int) : Option V := bif decide (y7 < y6) then must (inB y7 y4)
 (PI.asInt .i64 y5[y7.toNat * 6]? fun x1 => PI.asInt .i64 y5[y7.toNat * 6 + 1]? fun x2 => asSl y5[y7.toNat * 6 + 1 + 1]? fun x3 x4 => PI.asInt .i64 y5[y7.toNat * 6 + 1 + 1 + 1]? fun x5 => PI.asInt .i64
 y5[y7.toNat * 6 + 1 + 1 + 1 + 1]? fun x6 => asSl y5[y7.toNat * 6 + 1 + 1 + 1 + 1 + 1]? fun x7 x8 => must (inB x1 y1) (PI.asInt .i64 y2[x1.toNat * 2 + 1]? fun x9 => O.L 0 110 0 [true, true, false,
 true] [] m [(0, V.sl y1 y2), (5, V.int .i64 (IntKind.i64.wrap (y3 + x9))), (9, V.sl y4 y5), (10, V.int .i64 y6), (11, V.int .i64 (IntKind.i64.wrap (y7 + 1)))] [])) else some (V.tup [V.int .i64 y3])
theorem E110l1 (y1 y2 y3 y4 y5 y6 y7) {r : V} (h : T110l1 (orcE C) 0 0 0 0 y1 y2 y3 y4 y5 y6 y7 = some r) : loopE C 110 0 [true, true, false,
 true] [] [(0, V.sl y1 y2), (5, V.int .i64 y3), (9, V.sl y4 y5), (10, V.int .i64 y6), (11, V.int .i64 y7)] [] = some r := ofL (j := 0) (F := fun s => T110l1 (orc C s.k) s.k s.m 0 0 y1 y2 y3 y4 y5 y6
 y7) (fs0 fun _ _ => by kernel_rfl) (by
  unfold T110l1
  repeat' first | (with_reducible first | exact cC | refine cI fun _ => ?_ | refine cM ?_ | refine cF ?_ ?_ | refine cL fun _ _ => ?_) | exact cD0 gM) h

noncomputable def T153 (O : Orc) (k m q0 q1 : Nat) (y1 y2 : Int) (y3 : Nat) (y4 : List V) (y5 y6 : Int) (y7 : Nat) (y8 : List V) : Option V := bif y1 != y5 then some (V.tup [V.bool
 false]) else bif y2 != y6 then some (V.tup [V.bool false]) else need (O.R 0 54 [V.sl y3 y4, V.sl y7 y8]) fun x1 => asTup (some x1) fun x2 => PI.asBool x2[0]? fun x3 => bif !x3 then some (V.tup [V.bool
 false]) else some (V.tup [V.bool true])
theorem E153 (y1 y2 y3 y4 y5 y6 y7 y8) {r : V} (h : T153 (orcE C) 0 0 0 0 y1 y2 y3 y4 y5 y6 y7 y8 = some r) : runE C 153 [V.agg
 [V.int .i64 y1, V.int .i64 y2, V.sl y3 y4], V.agg [V.int .i64 y5, V.int .i64 y6, V.sl y7 y8]] = some r := ofR (j := 1) (F := fun s => T153 (orc C s.k) s.k s.m 0 0 y1 y2 y3 y4 y5 y6 y7 y8) (fun _ => by
 kernel_rfl) (by
  unfold T153
  repeat' first | (with_reducible first | exact cC | refine cN cR fun _ => ?_ | refine cT fun _ => ?_ | refine cF ?_ ?_ | refine cB fun _ => ?_ | refine cN cC fun _ => ?_ | exact cR)) h

noncomputable def T154 (O : Orc) (k m q0 q1 : Nat) (y1 y2 : Int) : Option V := need (O.R 0 74 [V.int .i64 y1, V.int .i64 1, V.int .i64 16]) fun x1 => asTup (some x1) fun x2 => PI.asBool x2[0]?
 fun x3 => bif !x3 then some (V.tup [V.int .i64 3, V.int .i64 0]) else need (O.R 0 74 [V.int .i64 y2, V.int .i64 0, V.int .i64 (IntKind.i64.wrap (y1 - 1))]) fun x4 => asTup (some x4) fun x5 =>
 PI.asBool x5[0]? fun x6 => bif !x6 then some (V.tup [V.int .i64 3, V.int .i64 0]) else need (O.R 0 134 [V.int .i64 y1, V.int .i64 y2]) fun x7 => asTup (some x7) fun x8 => asOsl x8[0]? fun x9 x10 =>
 some (V.tup [V.int .i64 0, V.int .i64 (↑x9 : Int)])
theorem E154 (y1 y2) {r : V} (h : T154 (orcE C) 0 0 0 0 y1 y2 = some r) : runE C 154 [V.int .i64 y1, V.int .i64 y2] = some r := ofR (j := 1) (F := fun s => T154 (orc C s.k) s.k s.m 0 0 y1
 y2) (fun _ => by kernel_rfl) (by
  unfold T154
  repeat' first | (with_reducible first | exact cC | refine cN cR fun _ => ?_ | refine cT fun _ => ?_ | refine cF ?_ ?_ | refine cB fun _ => ?_ | refine cO fun _ _ => ?_ | refine cN cC fun _ => ?_ | exact cR)) h

noncomputable def T132l1 (O : Orc) (k m q0 q1 : Nat) (y1 y2 y3 : Int) (y4 : Nat) (y5 : List V) : Option V := bif decide (y1 < (↑y4 : Int)) then must (inB y1 y4) (must (decide (y1.toNat
 * 1 < y5.length)) (asSl y5[y1.toNat * 1]? fun x1 x2 => bif (↑x1 : Int) != 32 then some (V.tup [V.bool false]) else O.L 0 132 0 [true, true, true, false, true] [] m [(1, V.ptr 0 0), (4, V.int .i64
 (IntKind.i64.wrap (y1 + 1)))] [Ob.box 106 [V.int .i64 y2, V.int .i64 y3, V.sl y4 y5] false])) else some (V.tup [V.bool true])
theorem E132l1 (y1 y2 y3 y4 y5) {r : V} (h : T132l1 (orcE C) 0 0 0 0 y1 y2 y3 y4 y5 = some r) : loopE C 132 0 [true, true, true, false, true] [] [(1, V.ptr 0
 0), (4, V.int .i64 y1)] [Ob.box 106 [V.int .i64 y2, V.int .i64 y3, V.sl y4 y5] false] = some r := ofL (j := 0) (F := fun s => T132l1 (orc C s.k) s.k s.m 0 0 y1 y2 y3 y4 y5) (fs0 fun _ _ => by
 kernel_rfl) (by
  unfold T132l1
  repeat' first | (with_reducible first | exact cC | refine cM ?_ | refine cF ?_ ?_ | refine cL fun _ _ => ?_) | exact cD0 gM) h

noncomputable def T114l2 (O : Orc) (k m q0 q1 : Nat) (y1 y2 y3 : Int) (y4 : Nat) (y5 : List V) (y6 : Nat) (y7 : List V) : Option V := bif decide (y3 ≥ 0) then must (inB y2 y4) (PI.asInt
 .u8 y5[y2.toNat * 1]? fun x1 => must (decide (0 ≤ IntKind.u64.wrap (IntKind.i64.wrap (2 * y3)))) (must (true && (y6 + 1).ble 140737488355328 && ((y6 + 1) * 8).ble 140737488355328) (O.L 0 114 2 [true,
 true, true, true, false, true, false, true, false, false, true] [q0] m [(3, V.ref 0), (4, V.ref 1), (5, V.int .i64 (IntKind.i64.wrap (IntKind.i64.wrap (y1 + 3) - IntKind.i64.wrap (PI.bits IntKind.u8
 (fun x1 x2 => x1 &&& x2) (x1.fdiv (2 ^ min (IntKind.u64.wrap (IntKind.i64.wrap (2 * y3))).toNat 8)) 3)))), (6, V.int .i64 y2), (7, V.int .i64 (IntKind.i64.wrap (y3 - 1)))] [Ob.row 5 y4 y5 false,
 Ob.row 2 (y6 + 1) (y7 ++ [V.int .i64 (IntKind.i64.wrap (PI.bits IntKind.u8 (fun x1 x2 => x1 &&& x2) (x1.fdiv (2 ^ min (IntKind.u64.wrap (IntKind.i64.wrap (2 * y3))).toNat 8)) 3))]) false]))) else O.L
 0 114 0 [true, true, true, true, false, true] [] q0 [(3, V.ref 0), (4, V.ref 1), (5, V.int .i64 y1), (6, V.int .i64 (IntKind.i64.wrap (y2 + 1)))] [Ob.row 5 y4 y5 false, Ob.row 2 y6 y7 false]
theorem E114l2 (y1 y2 y3 y4 y5 y6 y7) {r : V} (h : T114l2 (orcE C) 0 0 0 0 y1 y2 y3 y4 y5 y6 y7 = some r) : loopE C 114 2 [true, true, true,
 true, false, true, false, true, false, false, true] [0] [(3, V.ref 0), (4, V.ref 1), (5, V.int .i64 y1), (6, V.int .i64 y2), (7, V.int .i64 y3)] [Ob.row 5 y4 y5 false, Ob.row 2 y6 y7 false] = some r
 := ofL (j := 0) (F := fun s => T114l2 (orc C s.k) s.k s.m (s.fs.getD 0 0) 0 y1 y2 y3 y4 y5 y6 y7) (fs1 fun _ _ _ => by kernel_rfl) (by
  unfold T114l2
  repeat' first | (with_reducible first | exact cC | refine cI fun _ => ?_ | refine cM ?_ | refine cF ?_ ?_) | exact cD0 (gF (i := 0) (by decide)) | exact cD1 gM (gF (i := 0) (by decide))) h

noncomputable def T115l1 (O : Orc) (k m q0 q1 : Nat) (y1 : Nat) (y2 : List V) (y3 : Int) : Option V := bif decide (y3 > 0) then need (O.R 0 77 [V.str { data := #[(115 : UInt8), (116 : UInt8), (101 :
 UInt8), (112 : UInt8)] }, V.sl y1 y2]) fun x1 => asTup (some x1) fun x2 => asOsl x2[0]? fun x3 x4 => O.L 0 115 0 [true, false] [] m [(0, V.ref 0), (1, V.int .i64 (IntKind.i64.wrap (y3 - 1)))] [Ob.row
 5 x3 x4 false] else must (decide (y2.length = y1 * 1)) (must (true && (0 + y1).ble 140737488355328 && ((0 + y1) * 1).ble 140737488355328) (must (false || y2.all flatV) (some (V.tup [V.osl (0 + y1)
 y2]))))
theorem E115l1 (y1 y2 y3) {r : V} (h : T115l1 (orcE C) 0 0 0 0 y1 y2 y3 = some r) : loopE C 115 0 [true, false] [] [(0, V.sl y1 y2), (1, V.int .i64 y3)] [] = some r := ofL (j
 := 0) (F := fun s => T115l1 (orc C s.k) s.k s.m 0 0 y1 y2 y3) (fs0 fun _ _ => by kernel_rfl) (by
  unfold T115l1
  repeat' first | (with_reducible first | exact cC | refine cN cR fun _ => ?_ | refine cT fun _ => ?_ | refine cM ?_ | refine cF ?_ ?_ | refine cO fun _ _ => ?_ | refine cN cC fun _ => ?_ | exact cR) | exact cD0 gM) h

noncomputable def T133 (O : Orc) (k m q0 q1 : Nat) (y1 : Nat) (y2 : List V) : Option V := need (O.R 0 77 [V.str { data := #[(108 : UInt8), (101 : UInt8), (97 : UInt8), (102 : UInt8)] }, V.sl y1 y2])
 fun x1 => asTup (some x1) fun x2 => asOsl x2[0]? fun x3 x4 => must (false || x4.all flatV) (some (V.tup [V.osl x3 x4]))
theorem E133 (y1 y2) {r : V} (h : T133 (orcE C) 0 0 0 0 y1 y2 = some r) : runE C 133 [V.sl y1 y2] = some r := ofR (j := 1) (F := fun s => T133 (orc C s.k) s.k s.m 0 0 y1 y2) (fun _ =>
 by kernel_rfl) (by
  unfold T133
  repeat' first | (with_reducible first | exact cC | refine cN cR fun _ => ?_ | refine cT fun _ => ?_ | refine cM ?_ | refine cO fun _ _ => ?_ | refine cN cC fun _ => ?_ | exact cR)) h

noncomputable def T134 (O : Orc) (k m q0 q1 : Nat) (y1 y2 : Int) : Option V := bif decide (y1 ≤ 1) then some (V.tup [V.osl 0 []]) else need (O.R 0 155 [V.int .i64 y1]) fun x1 => asTup (some x1)
 fun x2 => PI.asInt .i64 x2[0]? fun x3 => bif decide (y2 < x3) then need (O.R 0 134 [V.int .i64 x3, V.int .i64 y2]) fun x4 => asTup (some x4) fun x5 => asOsl x5[0]? fun x6 x7 => must (true && (x6 +
 1).ble 140737488355328 && ((x6 + 1) * 1).ble 140737488355328) (must (false || (x7 ++ [V.bool true]).all flatV) (some (V.tup [V.osl (x6 + 1) (x7 ++ [V.bool true])]))) else need (O.R 0 134 [V.int .i64
 (IntKind.i64.wrap (y1 - x3)), V.int .i64 (IntKind.i64.wrap (y2 - x3))]) fun x8 => asTup (some x8) fun x9 => asOsl x9[0]? fun x10 x11 => must (true && (x10 + 1).ble 140737488355328 && ((x10 + 1) *
 1).ble 140737488355328) (must (false || (x11 ++ [V.bool false]).all flatV) (some (V.tup [V.osl (x10 + 1) (x11 ++ [V.bool false])])))
theorem E134 (y1 y2) {r : V} (h : T134 (orcE C) 0 0 0 0 y1 y2 = some r) : runE C 134 [V.int .i64 y1, V.int .i64 y2] = some r := ofR (j := 1) (F := fun s => T134 (orc C s.k) s.k s.m 0 0 y1
 y2) (fun _ => by kernel_rfl) (by
  unfold T134
  repeat' first | (with_reducible first | exact cC | refine cN cR fun _ => ?_ | refine cT fun _ => ?_ | refine cI fun _ => ?_ | refine cM ?_ | refine cF ?_ ?_ | refine cO fun _ _ => ?_ | refine cN cC fun _ => ?_ | exact cR)) h

noncomputable def T116l1 (O : Orc) (k m q0 q1 : Nat) (y1 : Nat) (y2 : List V) (y3 y4 y5 : Int) (y6 : Nat) (y7 : List V) (y8 : Nat) (y9 : List V) (y10 : Nat) (y11 : List V) : Option V :=
 bif decide (y3 < (↑y10 : Int)) then must (inB y3 y10) (PI.asBool y11[y3.toNat * 1]? fun x1 => bif x1 then must (inB y3 y6) (must (decide (y3.toNat * 1 < y7.length)) (asSl y7[y3.toNat * 1]? fun x2 x3
 => need (O.R 0 135 [V.sl y8 y9, V.sl x2 x3]) fun x4 => asTup (some x4) fun x5 => asOsl x5[0]? fun x6 x7 => O.L 0 116 0 [true, true, true, true, false, true] [] m [(0, V.sl y1 y2), (5, V.ptr 0 0), (7,
 V.ref 1), (8, V.ref 2), (9, V.int .i64 (IntKind.i64.wrap (y3 + 1)))] [Ob.box 106 [V.int .i64 y4, V.int .i64 y5, V.sl y6 y7] false, Ob.row 5 x6 x7 false, Ob.row 4 y10 y11 false])) else must (inB y3 y6)
 (must (decide (y3.toNat * 1 < y7.length)) (asSl y7[y3.toNat * 1]? fun x8 x9 => need (O.R 0 135 [V.sl x8 x9, V.sl y8 y9]) fun x10 => asTup (some x10) fun x11 => asOsl x11[0]? fun x12 x13 => O.L 0 116 0
 [true, true, true, true, false, true] [] m [(0, V.sl y1 y2), (5, V.ptr 0 0), (7, V.ref 1), (8, V.ref 2), (9, V.int .i64 (IntKind.i64.wrap (y3 + 1)))] [Ob.box 106 [V.int .i64 y4, V.int .i64 y5, V.sl y6
 y7] false, Ob.row 5 x12 x13 false, Ob.row 4 y10 y11 false]))) else need (O.R 0 37 [V.sl y8 y9, V.sl y1 y2]) fun x14 => asTup (some x14) fun x15 => PI.asBool x15[0]? fun x16 => some (V.tup [V.bool
 x16])
theorem E116l1 (y1 y2 y3 y4 y5 y6 y7 y8 y9 y10 y11) {r : V} (h : T116l1 (orcE C) 0 0 0 0 y1 y2 y3 y4 y5
 y6 y7 y8 y9 y10 y11 = some r) : loopE C 116 0 [true, true, true, true, false, true] [] [(0, V.sl y1 y2), (5, V.ptr 0 0), (7, V.ref 1), (8, V.ref 2), (9, V.int .i64 y3)] [Ob.box 106 [V.int .i64 y4,
 V.int .i64 y5, V.sl y6 y7] false, Ob.row 5 y8 y9 false, Ob.row 4 y10 y11 false] = some r := ofL (j := 0) (F := fun s => T116l1 (orc C s.k) s.k s.m 0 0 y1 y2 y3 y4 y5 y6 y7 y8 y9 y10 y11) (fs0 fun _ _
 => by kernel_rfl) (by
  unfold T116l1
  repeat' first | (with_reducible first | exact cC | refine cN cR fun _ => ?_ | refine cT fun _ => ?_ | refine cM ?_ | refine cF ?_ ?_ | refine cB fun _ => ?_ | refine cL fun _ _ => ?_ | refine cO fun _ _ => ?_ | refine cN cC fun _ => ?_ | exact cR) | exact cD0 gM) h

noncomputable def T138l2 (O : Orc) (k m q0 q1 : Nat) (y1 y2 : Int) (y3 : Nat) (y4 : List V) : Option V := bif decide (y2 ≥ 0) then must (decide (0 ≤ IntKind.u64.wrap (IntKind.i64.wrap (8 *
 y2)))) (must (true && (y3 + 1).ble 140737488355328 && ((y3 + 1) * 1).ble 140737488355328) (O.L 0 138 2 [true, true, true, true, false, true] [] m [(3, V.ref 0), (4, V.int .i64 y1), (5, V.int .i64
 (IntKind.i64.wrap (y2 - 1)))] [Ob.row 5 (y3 + 1) (y4 ++ [V.int .u8 (IntKind.u8.wrap (y1.fdiv (2 ^ min (IntKind.u64.wrap (IntKind.i64.wrap (8 * y2))).toNat 64)))]) false])) else some (V.tup [V.sl y3
 y4])
theorem E138l2 (y1 y2 y3 y4) {r : V} (h : T138l2 (orcE C) 0 0 0 0 y1 y2 y3 y4 = some r) : loopE C 138 2 [true, true, true, true, false, true] [] [(3, V.ref 0), (4,
 V.int .i64 y1), (5, V.int .i64 y2)] [Ob.row 5 y3 y4 false] = some r := ofL (j := 0) (F := fun s => T138l2 (orc C s.k) s.k s.m 0 0 y1 y2 y3 y4) (fs0 fun _ _ => by kernel_rfl) (by
  unfold T138l2
  repeat' first | (with_reducible first | exact cC | refine cM ?_ | refine cF ?_ ?_) | exact cD0 gM) h

noncomputable def T139 (O : Orc) (k m q0 q1 : Nat) (y1 : Nat) (y2 : List V) : Option V := O.L 0 139 0 [true, true, false, true] [] k [(0, V.sl y1 y2), (3, V.int .i64 0), (4, V.int .i64 0)] []
theorem E139 (y1 y2) {r : V} (h : T139 (orcE C) 0 0 0 0 y1 y2 = some r) : runE C 139 [V.sl y1 y2] = some r := ofR (j := 1) (F := fun s => T139 (orc C s.k) s.k s.m 0 0 y1 y2) (fun _ =>
 by kernel_rfl) (by
  unfold T139
  repeat' first | with_reducible exact cC | exact cD0 gK) h

noncomputable def T117l4 (O : Orc) (k m q0 q1 : Nat) (y1 : Nat) (y2 : List V) (y3 y4 : Int) (y5 y6 y7 : List V) : Option V := bif decide (y4 < 64) then must (inB
 (IntKind.i64.wrap (y4 - 15)) 64) (PI.asInt .i64 y7[0 + (IntKind.i64.wrap (y4 - 15)).toNat * 1]? fun x1 => must (inB (IntKind.i64.wrap (y4 - 2)) 64) (PI.asInt .i64 y7[0 + (IntKind.i64.wrap (y4 -
 2)).toNat * 1]? fun x2 => need (O.R 0 140 [V.int .i64 x1, V.int .u64 7]) fun x3 => asTup (some x3) fun x4 => PI.asInt .i64 x4[0]? fun x5 => need (O.R 0 140 [V.int .i64 x1, V.int .u64 18]) fun x6 =>
 asTup (some x6) fun x7 => PI.asInt .i64 x7[0]? fun x8 => need (O.R 0 140 [V.int .i64 x2, V.int .u64 17]) fun x9 => asTup (some x9) fun x10 => PI.asInt .i64 x10[0]? fun x11 => need (O.R 0 140 [V.int
 .i64 x2, V.int .u64 19]) fun x12 => asTup (some x12) fun x13 => PI.asInt .i64 x13[0]? fun x14 => must (inB (IntKind.i64.wrap (y4 - 7)) 64) (PI.asInt .i64 y7[0 + (IntKind.i64.wrap (y4 - 7)).toNat * 1]?
 fun x15 => must (inB (IntKind.i64.wrap (y4 - 16)) 64) (PI.asInt .i64 y7[0 + (IntKind.i64.wrap (y4 - 16)).toNat * 1]? fun x16 => must (inB y4 64) (must ((V.int .i64 ((IntKind.i64.wrap (IntKind.i64.wrap
 (IntKind.i64.wrap (PI.bits IntKind.i64 (fun x1 x2 => x1 ^^^ x2) (PI.bits IntKind.i64 (fun x1 x2 => x1 ^^^ x2) x11 x14) (x2.fdiv 1024) + x15) + PI.bits IntKind.i64 (fun x1 x2 => x1 ^^^ x2) (PI.bits
 IntKind.i64 (fun x1 x2 => x1 ^^^ x2) x5 x8) (x1.fdiv 8)) + x16)).tmod 4294967296)).solid && true && (0 + y4.toNat * 1 + 1).ble y7.length && flatB C 148 [V.int .i64 ((IntKind.i64.wrap (IntKind.i64.wrap
 (IntKind.i64.wrap (PI.bits IntKind.i64 (fun x1 x2 => x1 ^^^ x2) (PI.bits IntKind.i64 (fun x1 x2 => x1 ^^^ x2) x11 x14) (x2.fdiv 1024) + x15) + PI.bits IntKind.i64 (fun x1 x2 => x1 ^^^ x2) (PI.bits
 IntKind.i64 (fun x1 x2 => x1 ^^^ x2) x5 x8) (x1.fdiv 8)) + x16)).tmod 4294967296)]) (O.L 0 117 4 [true, true, true, true, false, true, false, true, false, false, true, true, false, true] [q0] m [(3,
 V.ptr 0 0), (4, V.ptr 1 0), (5, V.sl y1 y2), (6, V.int .i64 y3), (7, V.ptr 2 0), (9, V.int .i64 (IntKind.i64.wrap (y4 + 1)))] [Ob.box 148 y5 false, Ob.box 150 y6 false, Ob.box 148 (splice y7 (0 +
 y4.toNat * 1) [V.int .i64 ((IntKind.i64.wrap (IntKind.i64.wrap (IntKind.i64.wrap (PI.bits IntKind.i64 (fun x1 x2 => x1 ^^^ x2) (PI.bits IntKind.i64 (fun x1 x2 => x1 ^^^ x2) x11 x14) (x2.fdiv 1024) +
 x15) + PI.bits IntKind.i64 (fun x1 x2 => x1 ^^^ x2) (PI.bits IntKind.i64 (fun x1 x2 => x1 ^^^ x2) x5 x8) (x1.fdiv 8)) + x16)).tmod 4294967296)]) false])))))) else PI.asInt .i64 y6[0]? fun x17 =>
 PI.asInt .i64 y6[1]? fun x18 => PI.asInt .i64 y6[2]? fun x19 => PI.asInt .i64 y6[3]? fun x20 => PI.asInt .i64 y6[4]? fun x21 => PI.asInt .i64 y6[5]? fun x22 => PI.asInt .i64 y6[6]? fun x23 => PI.asInt
 .i64 y6[7]? fun x24 => O.L 0 117 6 [true, true, true, true, false, true, false, true, false, false, true, true, true, true, false, true] [q0] k [(3, V.ptr 0 0), (4, V.ptr 1 0), (5, V.sl y1 y2), (6,
 V.int .i64 y3), (7, V.ptr 2 0), (14, V.ptr 3 0), (15, V.int .i64 0)] [Ob.box 148 y5 false, Ob.box 150 y6 false, Ob.box 148 y7 false, Ob.box 150 [V.int .i64 x17, V.int .i64 x18, V.int .i64 x19, V.int
 .i64 x20, V.int .i64 x21, V.int .i64 x22, V.int .i64 x23, V.int .i64 x24] false]
theorem E117l4 (y1 y2 y3 y4 y5 y6 y7) {r : V} (h : T117l4 (orcE C) 0 0 0 0 y1 y2 y3 y4 y5 y6 y7 = some r) : loopE C 117 4 [true, true,
 true, true, false, true, false, true, false, false, true, true, false, true] [0] [(3, V.ptr 0 0), (4, V.ptr 1 0), (5, V.sl y1 y2), (6, V.int .i64 y3), (7, V.ptr 2 0), (9, V.int .i64 y4)] [Ob.box 148
 y5 false, Ob.box 150 y6 false, Ob.box 148 y7 false] = some r := ofL (j := 0) (F := fun s => T117l4 (orc C s.k) s.k s.m (s.fs.getD 0 0) 0 y1 y2 y3 y4 y5 y6 y7) (fs1 fun _ _ _ => by kernel_rfl) (by
  unfold T117l4
  repeat' first | (with_reducible first | exact cC | refine cN cR fun _ => ?_ | refine cT fun _ => ?_ | refine cI fun _ => ?_ | refine cM ?_ | refine cF ?_ ?_ | refine cN cC fun _ => ?_ | exact cR) | exact cD1 gK (gF (i := 0) (by decide)) | exact cD1 gM (gF (i := 0) (by decide))) h

noncomputable def T117l5 (O : Orc) (k m q0 q1 : Nat) (y1 y2 : Int) (y3 : List V) (y4 : Nat) (y5 : List V) : Option V := bif decide (y2 ≥ 0) then must (inB y1 8) (PI.asInt .i64 y3[0 + y1.toNat *
 1]? fun x1 => must (decide (0 ≤ IntKind.u64.wrap (IntKind.i64.wrap (8 * y2)))) (must (true && (y4 + 1).ble 140737488355328 && ((y4 + 1) * 1).ble 140737488355328) (O.L 0 117 12 [true, true, true, true,
 true, true, false, true, false, true, false, false, true] [q0] m [(4, V.ptr 0 0), (17, V.ref 1), (18, V.int .i64 y1), (19, V.int .i64 (IntKind.i64.wrap (y2 - 1)))] [Ob.box 150 y3 false, Ob.row 5 (y4 +
 1) (y5 ++ [V.int .u8 (IntKind.u8.wrap (x1.fdiv (2 ^ min (IntKind.u64.wrap (IntKind.i64.wrap (8 * y2))).toNat 64)))]) false]))) else O.L 0 117 10 [true, true, true, true, true, true, false, true] [] q0
 [(4, V.ptr 0 0), (17, V.ref 1), (18, V.int .i64 (IntKind.i64.wrap (y1 + 1)))] [Ob.box 150 y3 false, Ob.row 5 y4 y5 false]
theorem E117l5 (y1 y2 y3 y4 y5) {r : V} (h : T117l5 (orcE C) 0 0 0 0 y1 y2 y3 y4 y5 = some r) : loopE C 117 12 [true, true, true, true, true, true, false,
 true, false, true, false, false, true] [0] [(4, V.ptr 0 0), (17, V.ref 1), (18, V.int .i64 y1), (19, V.int .i64 y2)] [Ob.box 150 y3 false, Ob.row 5 y4 y5 false] = some r := ofL (j := 0) (F := fun s =>
 T117l5 (orc C s.k) s.k s.m (s.fs.getD 0 0) 0 y1 y2 y3 y4 y5) (fs1 fun _ _ _ => by kernel_rfl) (by
  unfold T117l5
  repeat' first | (with_reducible first | exact cC | refine cI fun _ => ?_ | refine cM ?_ | refine cF ?_ ?_) | exact cD0 (gF (i := 0) (by decide)) | exact cD1 gM (gF (i := 0) (by decide))) h

noncomputable def T121l2 (O : Orc) (k m q0 q1 : Nat) (y1 : Nat) (y2 : List V) (y3 y4 : Int) : Option V := bif decide (y4 < y3) then must (inB y4 y1) (must (decide (y4.toNat * 1 < y2.length))
 (asSl y2[y4.toNat * 1]? fun x1 x2 => need (O.R 0 143 [V.sl x1 x2]) fun x3 => asTup (some x3) fun x4 => PI.asBool x4[0]? fun x5 => bif x5 then some (V.tup [V.int .i64 y4]) else O.L 0 121 0 [true,
 false, true] [] m [(0, V.sl y1 y2), (1, V.fn 143 []), (7, V.int .i64 y3), (8, V.int .i64 (IntKind.i64.wrap (y4 + 1)))] [])) else some (V.tup [V.int .i64 (-1)])
theorem E121l2 (y1 y2 y3 y4) {r : V} (h : T121l2 (orcE C) 0 0 0 0 y1 y2 y3 y4 = some r) : loopE C 121 0 [true, false, true] [] [(0, V.sl y1 y2), (1, V.fn 143 []), (7,
 V.int .i64 y3), (8, V.int .i64 y4)] [] = some r := ofL (j := 0) (F := fun s => T121l2 (orc C s.k) s.k s.m 0 0 y1 y2 y3 y4) (fs0 fun _ _ => by kernel_rfl) (by
  unfold T121l2
  repeat' first | (with_reducible first | exact cC | refine cN cR fun _ => ?_ | refine cT fun _ => ?_ | refine cM ?_ | refine cF ?_ ?_ | refine cB fun _ => ?_ | refine cL fun _ _ => ?_ | refine cN cC fun _ => ?_ | exact cR) | exact cD0 gM) h

noncomputable def T144l1 (O : Orc) (k m q0 q1 : Nat) (y1 : Nat) (y2 : List V) (y3 : Nat) (y4 : List V) (y5 y6 : Int) : Option V := bif decide (y6 < y5) then must (inB y6 y1) (asSl y2[y6.toNat *
 2]? fun x1 x2 => PI.asInt .i64 y2[y6.toNat * 2 + 1]? fun x3 => need (O.R 0 145 [V.agg [V.sl x1 x2, V.int .i64 x3], V.pin [V.sl y3 y4] 0]) fun x4 => asTup (some x4) fun x5 => PI.asBool x5[0]? fun x6 =>
 bif x6 then some (V.tup [V.int .i64 y6]) else O.L 0 144 0 [true, false, true] [] m [(0, V.sl y1 y2), (1, V.fn 145 [V.pin [V.sl y3 y4] 0]), (7, V.int .i64 y5), (8, V.int .i64 (IntKind.i64.wrap (y6 +
 1)))] []) else some (V.tup [V.int .i64 (-1)])
theorem E144l1 (y1 y2 y3 y4 y5 y6) {r : V} (h : T144l1 (orcE C) 0 0 0 0 y1 y2 y3 y4 y5 y6 = some r) : loopE C 144 0 [true, false, true] [] [(0, V.sl
 y1 y2), (1, V.fn 145 [V.pin [V.sl y3 y4] 0]), (7, V.int .i64 y5), (8, V.int .i64 y6)] [] = some r := ofL (j := 0) (F := fun s => T144l1 (orc C s.k) s.k s.m 0 0 y1 y2 y3 y4 y5 y6) (fs0 fun _ _ => by
 kernel_rfl) (by
  unfold T144l1
  repeat' first | (with_reducible first | exact cC | refine cN cR fun _ => ?_ | refine cT fun _ => ?_ | refine cI fun _ => ?_ | refine cM ?_ | refine cF ?_ ?_ | refine cB fun _ => ?_ | refine cL fun _ _ => ?_ | refine cN cC fun _ => ?_ | exact cR) | exact cD0 gM) h

noncomputable def T146 (O : Orc) (k m q0 q1 : Nat) (y1 : Int) : Option V := need (O.R 0 91 [V.int .i64 y1, V.int .i64 0, V.int .i64 3]) fun x1 => asTup (some x1) fun x2 => PI.asBool x2[0]? fun x3 =>
 some (V.tup [V.bool x3])
theorem E146 (y1) {r : V} (h : T146 (orcE C) 0 0 0 0 y1 = some r) : runE C 146 [V.int .i64 y1] = some r := ofR (j := 1) (F := fun s => T146 (orc C s.k) s.k s.m 0 0 y1) (fun _ => by kernel_rfl) (by
  unfold T146
  repeat' first | (with_reducible first | exact cC | refine cN cR fun _ => ?_ | refine cT fun _ => ?_ | refine cB fun _ => ?_ | refine cN cC fun _ => ?_ | exact cR)) h

noncomputable def T123l1 (O : Orc) (k m q0 q1 : Nat) (y1 : Int) (y2 : Nat) (y3 : List V) (y4 y5 : Int) (y6 : Nat) (y7 : List V) : Option V := bif decide (y5 < y4) then must (inB y5 y2)
 (PI.asInt .u8 y3[y5.toNat * 1]? fun x1 => O.L 0 123 2 [true, true, false, true, false, true, true, false, false, true, true] [m] k [(3, V.ref 0), (4, V.int .i64 y1), (6, V.int .u8 x1), (7, V.int .i64
 6), (13, V.sl y2 y3), (14, V.int .i64 y4), (15, V.int .i64 y5)] [Ob.row 2 y6 y7 false]) else must (true && (y6 + 3).ble 140737488355328 && ((y6 + 3) * 8).ble 140737488355328) (must (false || (y7 ++
 [V.int .i64 (IntKind.i64.wrap (y1.tdiv 16)), V.int .i64 ((IntKind.i64.wrap (y1.tdiv 4)).tmod 4), V.int .i64 (y1.tmod 4)]).all flatV) (some (V.tup [V.osl (y6 + 3) (y7 ++ [V.int .i64 (IntKind.i64.wrap
 (y1.tdiv 16)), V.int .i64 ((IntKind.i64.wrap (y1.tdiv 4)).tmod 4), V.int .i64 (y1.tmod 4)])])))
theorem E123l1 (y1 y2 y3 y4 y5 y6 y7) {r : V} (h : T123l1 (orcE C) 0 0 0 0 y1 y2 y3 y4 y5 y6 y7 = some r) : loopE C 123 0 [true, true, false,
 true] [] [(3, V.ref 0), (4, V.int .i64 y1), (13, V.sl y2 y3), (14, V.int .i64 y4), (15, V.int .i64 y5)] [Ob.row 2 y6 y7 false] = some r := ofL (j := 0) (F := fun s => T123l1 (orc C s.k) s.k s.m 0 0 y1
 y2 y3 y4 y5 y6 y7) (fs0 fun _ _ => by kernel_rfl) (by
  unfold T123l1
  repeat' first | (with_reducible first | exact cC | refine cI fun _ => ?_ | refine cM ?_ | refine cF ?_ ?_) | exact cD1 gK gM) h

noncomputable def T124 (O : Orc) (k m q0 q1 : Nat) (y1 : Nat) (y2 : List V) (y3 : Int) : Option V := need (O.R 0 147 [V.sl y1 y2]) fun x1 => asTup (some x1) fun x2 => asOsl x2[0]? fun x3 x4 => O.L 0
 124 0 [true, true, false, true] [] k [(0, V.ref 0), (7, V.int .i64 y3), (8, V.int .i64 0)] [Ob.row 5 x3 x4 false]
theorem E124 (y1 y2 y3) {r : V} (h : T124 (orcE C) 0 0 0 0 y1 y2 y3 = some r) : runE C 124 [V.sl y1 y2, V.int .i64 y3] = some r := ofR (j := 1) (F := fun s => T124 (orc C s.k)
 s.k s.m 0 0 y1 y2 y3) (fun _ => by kernel_rfl) (by
  unfold T124
  repeat' first | (with_reducible first | exact cC | refine cN cR fun _ => ?_ | refine cT fun _ => ?_ | refine cO fun _ _ => ?_ | refine cN cC fun _ => ?_ | exact cR) | exact cD0 gK) h

noncomputable def T125 (O : Orc) (k m q0 q1 : Nat) (y1 : Nat) (y2 : List V) (y3 : Nat) (y4 : List V) (y5 y6 : Int) (y7 : Nat) (y8 : List V) : Option V := need (O.R 0 148 [V.agg [V.int .i64 y5,
 V.int .i64 y6, V.sl y7 y8]]) fun x1 => asTup (some x1) fun x2 => PI.asBool x2[0]? fun x3 => bif !x3 then some (V.tup [V.bool false]) else need (O.R 0 149 [V.sl y3 y4]) fun x4 => asTup (some x4) fun x5
 => asOsl x5[0]? fun x6 x7 => need (O.R 0 150 [V.int .i64 y6, V.int .i64 y5]) fun x8 => asTup (some x8) fun x9 => asOsl x9[0]? fun x10 x11 => O.L 0 125 0 [true, true, true, false, true] [] k [(0, V.sl
 y1 y2), (5, V.ptr 0 0), (7, V.ref 1), (19, V.ref 2), (20, V.int .i64 (↑x10 : Int)), (21, V.int .i64 0)] [Ob.box 106 [V.int .i64 y5, V.int .i64 y6, V.sl y7 y8] false, Ob.row 5 x6 x7 false, Ob.row 4 x10
 x11 false]
theorem E125 (y1 y2 y3 y4 y5 y6 y7 y8) {r : V} (h : T125 (orcE C) 0 0 0 0 y1 y2 y3 y4 y5 y6 y7 y8 = some r) : runE C 125 [V.sl y1
 y2, V.sl y3 y4, V.agg [V.int .i64 y5, V.int .i64 y6, V.sl y7 y8]] = some r := ofR (j := 1) (F := fun s => T125 (orc C s.k) s.k s.m 0 0 y1 y2 y3 y4 y5 y6 y7 y8) (fun _ => by kernel_rfl) (by
  unfold T125
  repeat' first | (with_reducible first | exact cC | refine cN cR fun _ => ?_ | refine cT fun _ => ?_ | refine cF ?_ ?_ | refine cB fun _ => ?_ | refine cO fun _ _ => ?_ | refine cN cC fun _ => ?_ | exact cR) | exact cD0 gK) h

noncomputable def T126l2 (O : Orc) (k m q0 q1 : Nat) (y1 : Int) (y2 : Nat) (y3 : List V) : Option V := bif (↑y2 : Int).tmod 64 != 56 then must (true && (y2 + 1).ble 140737488355328 && ((y2 + 1) *
 1).ble 140737488355328) (O.L 0 126 2 [true, true, true, true, true, false] [] m [(3, V.ref 0), (6, V.int .u64 y1)] [Ob.row 5 (y2 + 1) (y3 ++ [V.int .u8 0]) false]) else O.L 0 126 4 [true, true, true,
 true, true, true, false, true] [] k [(3, V.ref 0), (6, V.int .u64 y1), (7, V.int .i64 56)] [Ob.row 5 y2 y3 false]
theorem E126l2 (y1 y2 y3) {r : V} (h : T126l2 (orcE C) 0 0 0 0 y1 y2 y3 = some r) : loopE C 126 2 [true, true, true, true, true, false] [] [(3, V.ref 0), (6, V.int .u64 y1)]
 [Ob.row 5 y2 y3 false] = some r := ofL (j := 0) (F := fun s => T126l2 (orc C s.k) s.k s.m 0 0 y1 y2 y3) (fs0 fun _ _ => by kernel_rfl) (by
  unfold T126l2
  repeat' first | (with_reducible first | exact cC | refine cM ?_ | refine cF ?_ ?_) | exact cD0 gK | exact cD0 gM) h

noncomputable def T115l2 (O : Orc) (k m q0 q1 : Nat) (y1 : Int) (y2 : Nat) (y3 : List V) : Option V := bif decide (y1 > 0) then need (O.R 0 77 [V.str { data := #[(115 : UInt8), (116 : UInt8), (101 :
 UInt8), (112 : UInt8)] }, V.sl y2 y3]) fun x1 => asTup (some x1) fun x2 => asOsl x2[0]? fun x3 x4 => O.L 0 115 0 [true, false] [] m [(0, V.ref 0), (1, V.int .i64 (IntKind.i64.wrap (y1 - 1)))] [Ob.row
 5 x3 x4 false] else must (decide (y3.length = y2 * 1)) (must (true && (0 + y2).ble 140737488355328 && ((0 + y2) * 1).ble 140737488355328) (must (false || y3.all flatV) (some (V.tup [V.osl (0 + y2)
 y3]))))
theorem E115l2 (y1 y2 y3) {r : V} (h : T115l2 (orcE C) 0 0 0 0 y1 y2 y3 = some r) : loopE C 115 0 [true, false] [] [(0, V.ref 0), (1, V.int .i64 y1)] [Ob.row 5 y2 y3 false] =
 some r := ofL (j := 0) (F := fun s => T115l2 (orc C s.k) s.k s.m 0 0 y1 y2 y3) (fs0 fun _ _ => by kernel_rfl) (by
  unfold T115l2
  repeat' first | (with_reducible first | exact cC | refine cN cR fun _ => ?_ | refine cT fun _ => ?_ | refine cM ?_ | refine cF ?_ ?_ | refine cO fun _ _ => ?_ | refine cN cC fun _ => ?_ | exact cR) | exact cD0 gM) h

noncomputable def T155 (O : Orc) (k m q0 q1 : Nat) (y1 : Int) : Option V := O.L 0 155 0 [true, true, false] [] k [(0, V.int .i64 y1), (3, V.int .i64 1)] []
theorem E155 (y1) {r : V} (h : T155 (orcE C) 0 0 0 0 y1 = some r) : runE C 155 [V.int .i64 y1] = some r := ofR (j := 1) (F := fun s => T155 (orc C s.k) s.k s.m 0 0 y1) (fun _ => by kernel_rfl) (by
  unfold T155
  repeat' first | with_reducible exact cC | exact cD0 gK) h

noncomputable def T135 (O : Orc) (k m q0 q1 : Nat) (y1 : Nat) (y2 : List V) (y3 : Nat) (y4 : List V) : Option V := must (decide (y2.length = y1 * 1)) (must (true && (0 + y1).ble 140737488355328 && ((0
 + y1) * 1).ble 140737488355328) (must (decide (y4.length = y3 * 1)) (must (true && (0 + y1 + y3).ble 140737488355328 && ((0 + y1 + y3) * 1).ble 140737488355328) (need (O.R 0 77 [V.str { data := #[(110
 : UInt8), (111 : UInt8), (100 : UInt8), (101 : UInt8)] }, V.sl (0 + y1 + y3) (y2 ++ y4)]) fun x1 => asTup (some x1) fun x2 => asOsl x2[0]? fun x3 x4 => must (false || x4.all flatV) (some (V.tup [V.osl
 x3 x4]))))))
theorem E135 (y1 y2 y3 y4) {r : V} (h : T135 (orcE C) 0 0 0 0 y1 y2 y3 y4 = some r) : runE C 135 [V.sl y1 y2, V.sl y3 y4] = some r := ofR (j := 1) (F := fun s =>
 T135 (orc C s.k) s.k s.m 0 0 y1 y2 y3 y4) (fun _ => by kernel_rfl) (by
  unfold T135
  repeat' first | (with_reducible first | exact cC | refine cN cR fun _ => ?_ | refine cT fun _ => ?_ | refine cM ?_ | refine cO fun _ _ => ?_ | refine cN cC fun _ => ?_ | exact cR)) h

noncomputable def T139l1 (O : Orc) (k m q0 q1 : Nat) (y1 : Nat) (y2 : List V) (y3 y4 : Int) : Option V := bif decide (y4 < (↑y1 : Int)) then must (inB y4 y1) (PI.asInt .u8 y2[y4.toNat * 1]? fun
 x1 => O.L 0 139 0 [true, true, false, true] [] m [(0, V.sl y1 y2), (3, V.int .i64 (IntKind.i64.wrap (IntKind.i64.wrap (y3 * 256) + IntKind.i64.wrap x1))), (4, V.int .i64 (IntKind.i64.wrap (y4 + 1)))]
 []) else some (V.tup [V.int .i64 y3])
theorem E139l1 (y1 y2 y3 y4) {r : V} (h : T139l1 (orcE C) 0 0 0 0 y1 y2 y3 y4 = some r) : loopE C 139 0 [true, true, false, true] [] [(0, V.sl y1 y2), (3, V.int .i64
 y3), (4, V.int .i64 y4)] [] = some r := ofL (j := 0) (F := fun s => T139l1 (orc C s.k) s.k s.m 0 0 y1 y2 y3 y4) (fs0 fun _ _ => by kernel_rfl) (by
  unfold T139l1
  repeat' first | (with_reducible first | exact cC | refine cI fun _ => ?_ | refine cM ?_ | refine cF ?_ ?_) | exact cD0 gM) h

noncomputable def T140 (O : Orc) (k m q0 q1 : Nat) (y1 y2 : Int) : Option V := must (decide (0 ≤ y2)) (must (decide (0 ≤ IntKind.u64.wrap (32 - y2))) (some (V.tup [V.int .i64 ((PI.bits
 IntKind.i64 (fun x1 x2 => x1 ||| x2) (y1.fdiv (2 ^ min y2.toNat 64)) (IntKind.i64.wrap (y1 * 2 ^ min (IntKind.u64.wrap (32 - y2)).toNat 64))).tmod 4294967296)])))
theorem E140 (y1 y2) {r : V} (h : T140 (orcE C) 0 0 0 0 y1 y2 = some r) : runE C 140 [V.int .i64 y1, V.int .u64 y2] = some r := ofR (j := 1) (F := fun s => T140 (orc C s.k) s.k s.m 0 0 y1
 y2) (fun _ => by kernel_rfl) (by
  unfold T140
  repeat' first | (with_reducible first | exact cC | refine cM ?_)) h

noncomputable def T117l6 (O : Orc) (k m q0 q1 : Nat) (y1 : Nat) (y2 : List V) (y3 y4 : Int) (y5 y6 y7 y8 : List V) : Option V := bif decide (y4 < 64) then
 PI.asInt .i64 y8[0]? fun x1 => PI.asInt .i64 y8[1]? fun x2 => PI.asInt .i64 y8[2]? fun x3 => PI.asInt .i64 y8[3]? fun x4 => PI.asInt .i64 y8[4]? fun x5 => PI.asInt .i64 y8[5]? fun x6 => PI.asInt .i64
 y8[6]? fun x7 => PI.asInt .i64 y8[7]? fun x8 => must (inB y4 64) (PI.asInt .i64 y7[0 + y4.toNat * 1]? fun x9 => must (inB y4 64) (PI.asInt .i64 y5[0 + y4.toNat * 1]? fun x10 => need (O.R 0 141 [V.agg
 [V.int .i64 x1, V.int .i64 x2, V.int .i64 x3, V.int .i64 x4, V.int .i64 x5, V.int .i64 x6, V.int .i64 x7, V.int .i64 x8], V.int .i64 x9, V.int .i64 x10]) fun x11 => asTup (some x11) fun x12 =>
 PI.asInt .i64 x12[0]? fun x13 => PI.asInt .i64 x12[1]? fun x14 => PI.asInt .i64 x12[2]? fun x15 => PI.asInt .i64 x12[3]? fun x16 => PI.asInt .i64 x12[4]? fun x17 => PI.asInt .i64 x12[5]? fun x18 =>
 PI.asInt .i64 x12[6]? fun x19 => PI.asInt .i64 x12[7]? fun x20 => must ([V.int .i64 x13, V.int .i64 x14, V.int .i64 x15, V.int .i64 x16, V.int .i64 x17, V.int .i64 x18, V.int .i64 x19, V.int .i64
 x20].length.beq 8 && true && (0 + [V.int .i64 x13, V.int .i64 x14, V.int .i64 x15, V.int .i64 x16, V.int .i64 x17, V.int .i64 x18, V.int .i64 x19, V.int .i64 x20].length).ble y8.length && flatB C 150
 [V.int .i64 x13, V.int .i64 x14, V.int .i64 x15, V.int .i64 x16, V.int .i64 x17, V.int .i64 x18, V.int .i64 x19, V.int .i64 x20]) (O.L 0 117 6 [true, true, true, true, false, true, false, true, false,
 false, true, true, true, true, false, true] [q0] m [(3, V.ptr 0 0), (4, V.ptr 1 0), (5, V.sl y1 y2), (6, V.int .i64 y3), (7, V.ptr 2 0), (14, V.ptr 3 0), (15, V.int .i64 (IntKind.i64.wrap (y4 + 1)))]
 [Ob.box 148 y5 false, Ob.box 150 y6 false, Ob.box 148 y7 false, Ob.box 150 (splice y8 0 [V.int .i64 x13, V.int .i64 x14, V.int .i64 x15, V.int .i64 x16, V.int .i64 x17, V.int .i64 x18, V.int .i64 x19,
 V.int .i64 x20]) false]))) else O.L 0 117 8 [true, true, true, true, false, true, false, true, false, false, true, true, true, true, true, true] [q0] k [(3, V.ptr 0 0), (4, V.ptr 1 0), (5, V.sl y1
 y2), (6, V.int .i64 y3), (14, V.ptr 2 0), (16, V.int .i64 0)] [Ob.box 148 y5 false, Ob.box 150 y6 false, Ob.box 150 y8 false]
theorem E117l6 (y1 y2 y3 y4 y5 y6 y7 y8) {r : V} (h : T117l6 (orcE C) 0 0 0 0 y1 y2 y3 y4 y5 y6 y7 y8 = some r) : loopE C
 117 6 [true, true, true, true, false, true, false, true, false, false, true, true, true, true, false, true] [0] [(3, V.ptr 0 0), (4, V.ptr 1 0), (5, V.sl y1 y2), (6, V.int .i64 y3), (7, V.ptr 2 0),
 (14, V.ptr 3 0), (15, V.int .i64 y4)] [Ob.box 148 y5 false, Ob.box 150 y6 false, Ob.box 148 y7 false, Ob.box 150 y8 false] = some r := ofL (j := 0) (F := fun s => T117l6 (orc C s.k) s.k s.m (s.fs.getD
 0 0) 0 y1 y2 y3 y4 y5 y6 y7 y8) (fs1 fun _ _ _ => by kernel_rfl) (by
  unfold T117l6
  repeat' first | (with_reducible first | exact cC | refine cN cR fun _ => ?_ | refine cT fun _ => ?_ | refine cI fun _ => ?_ | refine cM ?_ | refine cF ?_ ?_ | refine cN cC fun _ => ?_ | exact cR) | exact cD1 gK (gF (i := 0) (by decide)) | exact cD1 gM (gF (i := 0) (by decide))) h

noncomputable def T143 (O : Orc) (k m q0 q1 : Nat) (y1 : Nat) (y2 : List V) : Option V := need (O.R 0 94 [V.sl y1 y2]) fun x1 => asTup (some x1) fun x2 => PI.asBool x2[0]? fun x3 => some (V.tup [V.bool
 !x3])
theorem E143 (y1 y2) {r : V} (h : T143 (orcE C) 0 0 0 0 y1 y2 = some r) : runE C 143 [V.sl y1 y2] = some r := ofR (j := 1) (F := fun s => T143 (orc C s.k) s.k s.m 0 0 y1 y2) (fun _ =>
 by kernel_rfl) (by
  unfold T143
  repeat' first | (with_reducible first | exact cC | refine cN cR fun _ => ?_ | refine cT fun _ => ?_ | refine cB fun _ => ?_ | refine cN cC fun _ => ?_ | exact cR)) h

noncomputable def T145 (O : Orc) (k m q0 q1 : Nat) (y1 : Nat) (y2 : List V) (y3 : Int) (y4 : Nat) (y5 : List V) : Option V := need (O.R 0 49 [V.sl y1 y2, V.sl y4 y5]) fun x1 => asTup (some x1) fun x2
 => PI.asBool x2[0]? fun x3 => some (V.tup [V.bool x3])
theorem E145 (y1 y2 y3 y4 y5) {r : V} (h : T145 (orcE C) 0 0 0 0 y1 y2 y3 y4 y5 = some r) : runE C 145 [V.agg [V.sl y1 y2, V.int .i64 y3], V.pin [V.sl y4 y5]
 0] = some r := ofR (j := 1) (F := fun s => T145 (orc C s.k) s.k s.m 0 0 y1 y2 y3 y4 y5) (fun _ => by kernel_rfl) (by
  unfold T145
  repeat' first | (with_reducible first | exact cC | refine cN cR fun _ => ?_ | refine cT fun _ => ?_ | refine cB fun _ => ?_ | refine cN cC fun _ => ?_ | exact cR)) h

noncomputable def T123l2 (O : Orc) (k m q0 q1 : Nat) (y1 y2 y3 : Int) (y4 : Nat) (y5 : List V) (y6 y7 : Int) (y8 : Nat) (y9 : List V) : Option V := bif decide (y3 ≥ 0) then must
 (decide (0 ≤ y3)) (must (true && (y8 + 1).ble 140737488355328 && ((y8 + 1) * 8).ble 140737488355328) (O.L 0 123 2 [true, true, false, true, false, true, true, false, false, true, true] [q0] m [(3,
 V.ref 0), (4, V.int .i64 (IntKind.i64.wrap (IntKind.i64.wrap (y1 + 3) - IntKind.i64.wrap (PI.bits IntKind.u8 (fun x1 x2 => x1 &&& x2) (y2.fdiv (2 ^ min y3.toNat 8)) 3)))), (6, V.int .u8 y2), (7, V.int
 .i64 (IntKind.i64.wrap (y3 - 2))), (13, V.sl y4 y5), (14, V.int .i64 y6), (15, V.int .i64 y7)] [Ob.row 2 (y8 + 1) (y9 ++ [V.int .i64 (IntKind.i64.wrap (PI.bits IntKind.u8 (fun x1 x2 => x1 &&& x2)
 (y2.fdiv (2 ^ min y3.toNat 8)) 3))]) false])) else O.L 0 123 0 [true, true, false, true] [] q0 [(3, V.ref 0), (4, V.int .i64 y1), (13, V.sl y4 y5), (14, V.int .i64 y6), (15, V.int .i64
 (IntKind.i64.wrap (y7 + 1)))] [Ob.row 2 y8 y9 false]
theorem E123l2 (y1 y2 y3 y4 y5 y6 y7 y8 y9) {r : V} (h : T123l2 (orcE C) 0 0 0 0 y1 y2 y3 y4 y5 y6 y7 y8 y9 = some r) : loopE
 C 123 2 [true, true, false, true, false, true, true, false, false, true, true] [0] [(3, V.ref 0), (4, V.int .i64 y1), (6, V.int .u8 y2), (7, V.int .i64 y3), (13, V.sl y4 y5), (14, V.int .i64 y6), (15,
 V.int .i64 y7)] [Ob.row 2 y8 y9 false] = some r := ofL (j := 0) (F := fun s => T123l2 (orc C s.k) s.k s.m (s.fs.getD 0 0) 0 y1 y2 y3 y4 y5 y6 y7 y8 y9) (fs1 fun _ _ _ => by kernel_rfl) (by
  unfold T123l2
  repeat' first | (with_reducible first | exact cC | refine cM ?_ | refine cF ?_ ?_) | exact cD0 (gF (i := 0) (by decide)) | exact cD1 gM (gF (i := 0) (by decide))) h

noncomputable def T147 (O : Orc) (k m q0 q1 : Nat) (y1 : Nat) (y2 : List V) : Option V := bif y1.beq (OfNat.ofNat 0) then both (some (V.tup [V.osl 0 []])) (must (decide (y2.length = y1 * 1)) (must
 (true && (0 + y1).ble 140737488355328 && ((0 + y1) * 1).ble 140737488355328) (must (false || y2.all flatV) (some (V.tup [V.osl (0 + y1) y2]))))) else must (decide (y2.length = y1 * 1)) (must (true &&
 (0 + y1).ble 140737488355328 && ((0 + y1) * 1).ble 140737488355328) (must (false || y2.all flatV) (some (V.tup [V.osl (0 + y1) y2]))))
theorem E147 (y1 y2) {r : V} (h : T147 (orcE C) 0 0 0 0 y1 y2 = some r) : runE C 147 [V.sl y1 y2] = some r := ofR (j := 1) (F := fun s => T147 (orc C s.k) s.k s.m 0 0 y1 y2) (fun _ =>
 by kernel_rfl) (by
  unfold T147
  repeat' first | (with_reducible first | exact cC | refine cM ?_ | refine cF ?_ ?_ | refine cW ?_ ?_)) h

noncomputable def T124l1 (O : Orc) (k m q0 q1 : Nat) (y1 y2 : Int) (y3 : Nat) (y4 : List V) : Option V := bif decide (y2 < y1) then need (O.R 0 96 [V.str { data := #[(115 : UInt8), (116 :
 UInt8), (101 : UInt8), (112 : UInt8)] }, V.sl 1 [V.sl y3 y4]]) fun x1 => asTup (some x1) fun x2 => asOsl x2[0]? fun x3 x4 => O.L 0 124 0 [true, true, false, true] [] m [(0, V.ref 0), (7, V.int .i64
 y1), (8, V.int .i64 (IntKind.i64.wrap (y2 + 1)))] [Ob.row 5 x3 x4 false] else must (false || y4.all flatV) (some (V.tup [V.osl y3 y4]))
theorem E124l1 (y1 y2 y3 y4) {r : V} (h : T124l1 (orcE C) 0 0 0 0 y1 y2 y3 y4 = some r) : loopE C 124 0 [true, true, false, true] [] [(0, V.ref 0), (7, V.int .i64 y1),
 (8, V.int .i64 y2)] [Ob.row 5 y3 y4 false] = some r := ofL (j := 0) (F := fun s => T124l1 (orc C s.k) s.k s.m 0 0 y1 y2 y3 y4) (fs0 fun _ _ => by kernel_rfl) (by
  unfold T124l1
  repeat' first | (with_reducible first | exact cC | refine cN cR fun _ => ?_ | refine cT fun _ => ?_ | refine cM ?_ | refine cF ?_ ?_ | refine cO fun _ _ => ?_ | refine cN cC fun _ => ?_ | exact cR) | exact cD0 gM) h

noncomputable def T148 (O : Orc) (k m q0 q1 : Nat) (y1 y2 : Int) (y3 : Nat) (y4 : List V) : Option V := need (O.R 0 157 [V.int .i64 y2, V.int .i64 y1]) fun x1 => asTup (some x1) fun x2 =>
 PI.asInt .i64 x2[0]? fun x3 => PI.asInt .i64 x2[1]? fun x4 => bif x3 == 0 then bif x4 == (↑y3 : Int) then need (O.R 0 119 [V.sl y3 y4]) fun x5 => asTup (some x5) fun x6 => PI.asBool x6[0]? fun x7 =>
 some (V.tup [V.bool x7]) else some (V.tup [V.bool false]) else some (V.tup [V.bool false])
theorem E148 (y1 y2 y3 y4) {r : V} (h : T148 (orcE C) 0 0 0 0 y1 y2 y3 y4 = some r) : runE C 148 [V.agg [V.int .i64 y1, V.int .i64 y2, V.sl y3 y4]] = some r := ofR (j
 := 1) (F := fun s => T148 (orc C s.k) s.k s.m 0 0 y1 y2 y3 y4) (fun _ => by kernel_rfl) (by
  unfold T148
  repeat' first | (with_reducible first | exact cC | refine cN cR fun _ => ?_ | refine cT fun _ => ?_ | refine cI fun _ => ?_ | refine cF ?_ ?_ | refine cB fun _ => ?_ | refine cN cC fun _ => ?_ | exact cR)) h

noncomputable def T149 (O : Orc) (k m q0 q1 : Nat) (y1 : Nat) (y2 : List V) : Option V := need (O.R 0 96 [V.str { data := #[(108 : UInt8), (101 : UInt8), (97 : UInt8), (102 : UInt8)] }, V.sl 1 [V.sl y1
 y2]]) fun x1 => asTup (some x1) fun x2 => asOsl x2[0]? fun x3 x4 => must (false || x4.all flatV) (some (V.tup [V.osl x3 x4]))
theorem E149 (y1 y2) {r : V} (h : T149 (orcE C) 0 0 0 0 y1 y2 = some r) : runE C 149 [V.sl y1 y2] = some r := ofR (j := 1) (F := fun s => T149 (orc C s.k) s.k s.m 0 0 y1 y2) (fun _ =>
 by kernel_rfl) (by
  unfold T149
  repeat' first | (with_reducible first | exact cC | refine cN cR fun _ => ?_ | refine cT fun _ => ?_ | refine cM ?_ | refine cO fun _ _ => ?_ | refine cN cC fun _ => ?_ | exact cR)) h

noncomputable def T150 (O : Orc) (k m q0 q1 : Nat) (y1 y2 : Int) : Option V := bif y1 == 1 then some (V.tup [V.osl 0 []]) else need (O.R 0 158 [V.int .i64 y1]) fun x1 => asTup (some x1) fun x2
 => PI.asInt .i64 x2[0]? fun x3 => bif decide (y2 < x3) then need (O.R 0 150 [V.int .i64 x3, V.int .i64 y2]) fun x4 => asTup (some x4) fun x5 => asOsl x5[0]? fun x6 x7 => must (true && (x6 + 1).ble
 140737488355328 && ((x6 + 1) * 1).ble 140737488355328) (must (false || (x7 ++ [V.bool false]).all flatV) (some (V.tup [V.osl (x6 + 1) (x7 ++ [V.bool false])]))) else need (O.R 0 150 [V.int .i64
 (IntKind.i64.wrap (y1 - x3)), V.int .i64 (IntKind.i64.wrap (y2 - x3))]) fun x8 => asTup (some x8) fun x9 => asOsl x9[0]? fun x10 x11 => must (true && (x10 + 1).ble 140737488355328 && ((x10 + 1) *
 1).ble 140737488355328) (must (false || (x11 ++ [V.bool true]).all flatV) (some (V.tup [V.osl (x10 + 1) (x11 ++ [V.bool true])])))
theorem E150 (y1 y2) {r : V} (h : T150 (orcE C) 0 0 0 0 y1 y2 = some r) : runE C 150 [V.int .i64 y1, V.int .i64 y2] = some r := ofR (j := 1) (F := fun s => T150 (orc C s.k) s.k s.m 0 0 y1
 y2) (fun _ => by kernel_rfl) (by
  unfold T150
  repeat' first | (with_reducible first | exact cC | refine cN cR fun _ => ?_ | refine cT fun _ => ?_ | refine cI fun _ => ?_ | refine cM ?_ | refine cF ?_ ?_ | refine cO fun _ _ => ?_ | refine cN cC fun _ => ?_ | exact cR)) h

noncomputable def T125l1 (O : Orc) (k m q0 q1 : Nat) (y1 : Nat) (y2 : List V) (y3 y4 y5 y6 : Int) (y7 : Nat) (y8 : List V) (y9 : Nat) (y10 : List V) (y11 : Nat) (y12 : List V) :
 Option V := bif decide (y4 < y3) then must (inB y4 y11) (PI.asBool y12[y4.toNat * 1]? fun x1 => bif x1 then must (inB y4 y7) (must (decide (y4.toNat * 1 < y8.length)) (asSl y8[y4.toNat * 1]? fun x2 x3
 => need (O.R 0 151 [V.sl x2 x3, V.sl y9 y10]) fun x4 => asTup (some x4) fun x5 => asOsl x5[0]? fun x6 x7 => O.L 0 125 0 [true, true, true, false, true] [] m [(0, V.sl y1 y2), (5, V.ptr 0 0), (7, V.ref
 1), (19, V.ref 2), (20, V.int .i64 y3), (21, V.int .i64 (IntKind.i64.wrap (y4 + 1)))] [Ob.box 106 [V.int .i64 y5, V.int .i64 y6, V.sl y7 y8] false, Ob.row 5 x6 x7 false, Ob.row 4 y11 y12 false])) else
 must (inB y4 y7) (must (decide (y4.toNat * 1 < y8.length)) (asSl y8[y4.toNat * 1]? fun x8 x9 => need (O.R 0 151 [V.sl y9 y10, V.sl x8 x9]) fun x10 => asTup (some x10) fun x11 => asOsl x11[0]? fun x12
 x13 => O.L 0 125 0 [true, true, true, false, true] [] m [(0, V.sl y1 y2), (5, V.ptr 0 0), (7, V.ref 1), (19, V.ref 2), (20, V.int .i64 y3), (21, V.int .i64 (IntKind.i64.wrap (y4 + 1)))] [Ob.box 106
 [V.int .i64 y5, V.int .i64 y6, V.sl y7 y8] false, Ob.row 5 x12 x13 false, Ob.row 4 y11 y12 false]))) else need (O.R 0 49 [V.sl y9 y10, V.sl y1 y2]) fun x14 => asTup (some x14) fun x15 => PI.asBool
 x15[0]? fun x16 => some (V.tup [V.bool x16])
theorem E125l1 (y1 y2 y3 y4 y5 y6 y7 y8 y9 y10 y11 y12) {r : V} (h : T125l1 (orcE C) 0 0 0 0 y1
 y2 y3 y4 y5 y6 y7 y8 y9 y10 y11 y12 = some r) : loopE C 125 0 [true, true, true, false, true] [] [(0, V.sl y1 y2), (5, V.ptr 0 0), (7, V.ref 1), (19, V.ref 2), (20, V.int .i64 y3), (21, V.int .i64
 y4)] [Ob.box 106 [V.int .i64 y5, V.int .i64 y6, V.sl y7 y8] false, Ob.row 5 y9 y10 false, Ob.row 4 y11 y12 false] = some r := ofL (j := 0) (F := fun s => T125l1 (orc C s.k) s.k s.m 0 0 y1 y2 y3 y4 y5
 y6 y7 y8 y9 y10 y11 y12) (fs0 fun _ _ => by kernel_rfl) (by
  unfold T125l1
  repeat' first | (with_reducible first | exact cC | refine cN cR fun _ => ?_ | refine cT fun _ => ?_ | refine cM ?_ | refine cF ?_ ?_ | refine cB fun _ => ?_ | refine cL fun _ _ => ?_ | refine cO fun _ _ => ?_ | refine cN cC fun _ => ?_ | exact cR) | exact cD0 gM) h

noncomputable def T126l3 (O : Orc) (k m q0 q1 : Nat) (y1 y2 : Int) (y3 : Nat) (y4 : List V) : Option V := bif decide (y2 ≥ 0) then must (decide (0 ≤ y2)) (must (true && (y3 + 1).ble
 140737488355328 && ((y3 + 1) * 1).ble 140737488355328) (O.L 0 126 4 [true, true, true, true, true, true, false, true] [] m [(3, V.ref 0), (6, V.int .u64 y1), (7, V.int .i64 (IntKind.i64.wrap (y2 -
 8)))] [Ob.row 5 (y3 + 1) (y4 ++ [V.int .u8 (IntKind.u8.wrap (y1.fdiv (2 ^ min y2.toNat 64)))]) false])) else O.L 0 126 6 [true, true, true, true, true, true, true, true, false] [] k [(3, V.ref 0), (8,
 V.ptr 1 0)] [Ob.row 5 y3 y4 false, Ob.box 160 [V.int .u32 1779033703, V.int .u32 3144134277, V.int .u32 1013904242, V.int .u32 2773480762, V.int .u32 1359893119, V.int .u32 2600822924, V.int .u32
 528734635, V.int .u32 1541459225] false]
theorem E126l3 (y1 y2 y3 y4) {r : V} (h : T126l3 (orcE C) 0 0 0 0 y1 y2 y3 y4 = some r) : loopE C 126 4 [true, true, true, true, true, true, false, true] [] [(3, V.ref
 0), (6, V.int .u64 y1), (7, V.int .i64 y2)] [Ob.row 5 y3 y4 false] = some r := ofL (j := 0) (F := fun s => T126l3 (orc C s.k) s.k s.m 0 0 y1 y2 y3 y4) (fs0 fun _ _ => by kernel_rfl) (by
  unfold T126l3
  repeat' first | (with_reducible first | exact cC | refine cM ?_ | refine cF ?_ ?_) | exact cD0 gK | exact cD0 gM) h

noncomputable def T155l1 (O : Orc) (k m q0 q1 : Nat) (y1 y2 : Int) : Option V := bif decide (IntKind.i64.wrap (2 * y2) < y1) then O.L 0 155 0 [true, true, false] [] m [(0, V.int .i64 y1), (3,
 V.int .i64 (IntKind.i64.wrap (2 * y2)))] [] else some (V.tup [V.int .i64 y2])
theorem E155l1 (y1 y2) {r : V} (h : T155l1 (orcE C) 0 0 0 0 y1 y2 = some r) : loopE C 155 0 [true, true, false] [] [(0, V.int .i64 y1), (3, V.int .i64 y2)] [] = some r := ofL (j := 0) (F
 := fun s => T155l1 (orc C s.k) s.k s.m 0 0 y1 y2) (fs0 fun _ _ => by kernel_rfl) (by
  unfold T155l1
  repeat' first | (with_reducible first | exact cC | refine cF ?_ ?_) | exact cD0 gM) h

noncomputable def T141 (O : Orc) (k m q0 q1 : Nat) (y1 y2 y3 y4 y5 y6 y7 y8 y9 y10 : Int) : Option V := need (O.R 0 140 [V.int
 .i64 y5, V.int .u64 6]) fun x1 => asTup (some x1) fun x2 => PI.asInt .i64 x2[0]? fun x3 => need (O.R 0 140 [V.int .i64 y5, V.int .u64 11]) fun x4 => asTup (some x4) fun x5 => PI.asInt .i64 x5[0]? fun
 x6 => need (O.R 0 140 [V.int .i64 y5, V.int .u64 25]) fun x7 => asTup (some x7) fun x8 => PI.asInt .i64 x8[0]? fun x9 => need (O.R 0 156 [V.int .i64 y5]) fun x10 => asTup (some x10) fun x11 =>
 PI.asInt .i64 x11[0]? fun x12 => need (O.R 0 140 [V.int .i64 y1, V.int .u64 2]) fun x13 => asTup (some x13) fun x14 => PI.asInt .i64 x14[0]? fun x15 => need (O.R 0 140 [V.int .i64 y1, V.int .u64 13])
 fun x16 => asTup (some x16) fun x17 => PI.asInt .i64 x17[0]? fun x18 => need (O.R 0 140 [V.int .i64 y1, V.int .u64 22]) fun x19 => asTup (some x19) fun x20 => PI.asInt .i64 x20[0]? fun x21 => some
 (V.tup [V.int .i64 ((IntKind.i64.wrap ((IntKind.i64.wrap (IntKind.i64.wrap (IntKind.i64.wrap (IntKind.i64.wrap (y8 + PI.bits IntKind.i64 (fun x1 x2 => x1 ^^^ x2) (PI.bits IntKind.i64 (fun x1 x2 => x1
 ^^^ x2) x3 x6) x9) + PI.bits IntKind.i64 (fun x1 x2 => x1 ^^^ x2) (PI.bits IntKind.i64 (fun x1 x2 => x1 &&& x2) y5 y6) (PI.bits IntKind.i64 (fun x1 x2 => x1 &&& x2) x12 y7)) + y10) + y9)).tmod
 4294967296 + (IntKind.i64.wrap (PI.bits IntKind.i64 (fun x1 x2 => x1 ^^^ x2) (PI.bits IntKind.i64 (fun x1 x2 => x1 ^^^ x2) x15 x18) x21 + PI.bits IntKind.i64 (fun x1 x2 => x1 ^^^ x2) (PI.bits
 IntKind.i64 (fun x1 x2 => x1 ^^^ x2) (PI.bits IntKind.i64 (fun x1 x2 => x1 &&& x2) y1 y2) (PI.bits IntKind.i64 (fun x1 x2 => x1 &&& x2) y1 y3)) (PI.bits IntKind.i64 (fun x1 x2 => x1 &&& x2) y2
 y3))).tmod 4294967296)).tmod 4294967296), V.int .i64 y1, V.int .i64 y2, V.int .i64 y3, V.int .i64 ((IntKind.i64.wrap (y4 + (IntKind.i64.wrap (IntKind.i64.wrap (IntKind.i64.wrap (IntKind.i64.wrap (y8 +
 PI.bits IntKind.i64 (fun x1 x2 => x1 ^^^ x2) (PI.bits IntKind.i64 (fun x1 x2 => x1 ^^^ x2) x3 x6) x9) + PI.bits IntKind.i64 (fun x1 x2 => x1 ^^^ x2) (PI.bits IntKind.i64 (fun x1 x2 => x1 &&& x2) y5
 y6) (PI.bits IntKind.i64 (fun x1 x2 => x1 &&& x2) x12 y7)) + y10) + y9)).tmod 4294967296)).tmod 4294967296), V.int .i64 y5, V.int .i64 y6, V.int .i64 y7])
theorem E141 (y1 y2 y3 y4 y5 y6 y7 y8 y9 y10) {r : V} (h : T141 (orcE C) 0 0 0 0 y1 y2 y3 y4 y5 y6 y7 y8 y9 y10 = some r) :
 runE C 141 [V.agg [V.int .i64 y1, V.int .i64 y2, V.int .i64 y3, V.int .i64 y4, V.int .i64 y5, V.int .i64 y6, V.int .i64 y7, V.int .i64 y8], V.int .i64 y9, V.int .i64 y10] = some r := ofR (j := 1) (F
 := fun s => T141 (orc C s.k) s.k s.m 0 0 y1 y2 y3 y4 y5 y6 y7 y8 y9 y10) (fun _ => by kernel_rfl) (by
  unfold T141
  repeat' first | (with_reducible first | exact cC | refine cN cR fun _ => ?_ | refine cT fun _ => ?_ | refine cI fun _ => ?_ | refine cN cC fun _ => ?_ | exact cR)) h

noncomputable def T117l7 (O : Orc) (k m q0 q1 : Nat) (y1 : Nat) (y2 : List V) (y3 y4 : Int) (y5 y6 y7 : List V) : Option V := bif decide (y4 < 8) then must (inB y4 8)
 (PI.asInt .i64 y6[0 + y4.toNat * 1]? fun x1 => must (inB y4 8) (PI.asInt .i64 y7[0 + y4.toNat * 1]? fun x2 => must (inB y4 8) (must ((V.int .i64 ((IntKind.i64.wrap (x1 + x2)).tmod 4294967296)).solid
 && true && (0 + y4.toNat * 1 + 1).ble y6.length && flatB C 150 [V.int .i64 ((IntKind.i64.wrap (x1 + x2)).tmod 4294967296)]) (O.L 0 117 8 [true, true, true, true, false, true, false, true, false,
 false, true, true, true, true, true, true] [q0] m [(3, V.ptr 0 0), (4, V.ptr 1 0), (5, V.sl y1 y2), (6, V.int .i64 y3), (14, V.ptr 2 0), (16, V.int .i64 (IntKind.i64.wrap (y4 + 1)))] [Ob.box 148 y5
 false, Ob.box 150 (splice y6 (0 + y4.toNat * 1) [V.int .i64 ((IntKind.i64.wrap (x1 + x2)).tmod 4294967296)]) false, Ob.box 150 y7 false])))) else O.L 0 117 0 [true, true, true, true, false, true] []
 q0 [(3, V.ptr 0 0), (4, V.ptr 1 0), (5, V.sl y1 y2), (6, V.int .i64 (IntKind.i64.wrap (y3 + 64)))] [Ob.box 148 y5 false, Ob.box 150 y6 false]
theorem E117l7 (y1 y2 y3 y4 y5 y6 y7) {r : V} (h : T117l7 (orcE C) 0 0 0 0 y1 y2 y3 y4 y5 y6 y7 = some r) : loopE C 117 8 [true, true,
 true, true, false, true, false, true, false, false, true, true, true, true, true, true] [0] [(3, V.ptr 0 0), (4, V.ptr 1 0), (5, V.sl y1 y2), (6, V.int .i64 y3), (14, V.ptr 2 0), (16, V.int .i64 y4)]
 [Ob.box 148 y5 false, Ob.box 150 y6 false, Ob.box 150 y7 false] = some r := ofL (j := 0) (F := fun s => T117l7 (orc C s.k) s.k s.m (s.fs.getD 0 0) 0 y1 y2 y3 y4 y5 y6 y7) (fs1 fun _ _ _ => by
 kernel_rfl) (by
  unfold T117l7
  repeat' first | (with_reducible first | exact cC | refine cI fun _ => ?_ | refine cM ?_ | refine cF ?_ ?_) | exact cD0 (gF (i := 0) (by decide)) | exact cD1 gM (gF (i := 0) (by decide))) h

noncomputable def T157 (O : Orc) (k m q0 q1 : Nat) (y1 y2 : Int) : Option V := need (O.R 0 91 [V.int .i64 y1, V.int .i64 1, V.int .i64 16]) fun x1 => asTup (some x1) fun x2 => PI.asBool x2[0]?
 fun x3 => bif !x3 then some (V.tup [V.int .i64 3, V.int .i64 0]) else need (O.R 0 91 [V.int .i64 y2, V.int .i64 0, V.int .i64 (IntKind.i64.wrap (y1 - 1))]) fun x4 => asTup (some x4) fun x5 =>
 PI.asBool x5[0]? fun x6 => bif !x6 then some (V.tup [V.int .i64 3, V.int .i64 0]) else need (O.R 0 150 [V.int .i64 y1, V.int .i64 y2]) fun x7 => asTup (some x7) fun x8 => asOsl x8[0]? fun x9 x10 =>
 some (V.tup [V.int .i64 0, V.int .i64 (↑x9 : Int)])
theorem E157 (y1 y2) {r : V} (h : T157 (orcE C) 0 0 0 0 y1 y2 = some r) : runE C 157 [V.int .i64 y1, V.int .i64 y2] = some r := ofR (j := 1) (F := fun s => T157 (orc C s.k) s.k s.m 0 0 y1
 y2) (fun _ => by kernel_rfl) (by
  unfold T157
  repeat' first | (with_reducible first | exact cC | refine cN cR fun _ => ?_ | refine cT fun _ => ?_ | refine cF ?_ ?_ | refine cB fun _ => ?_ | refine cO fun _ _ => ?_ | refine cN cC fun _ => ?_ | exact cR)) h

noncomputable def T158 (O : Orc) (k m q0 q1 : Nat) (y1 : Int) : Option V := O.L 0 158 0 [true, true, false] [] k [(0, V.int .i64 y1), (3, V.int .i64 1)] []
theorem E158 (y1) {r : V} (h : T158 (orcE C) 0 0 0 0 y1 = some r) : runE C 158 [V.int .i64 y1] = some r := ofR (j := 1) (F := fun s => T158 (orc C s.k) s.k s.m 0 0 y1) (fun _ => by kernel_rfl) (by
  unfold T158
  repeat' first | with_reducible exact cC | exact cD0 gK) h

noncomputable def T151 (O : Orc) (k m q0 q1 : Nat) (y1 : Nat) (y2 : List V) (y3 : Nat) (y4 : List V) : Option V := need (O.R 0 96 [V.str { data := #[(110 : UInt8), (111 : UInt8), (100 : UInt8), (101 :
 UInt8)] }, V.sl 2 [V.sl y1 y2, V.sl y3 y4]]) fun x1 => asTup (some x1) fun x2 => asOsl x2[0]? fun x3 x4 => must (false || x4.all flatV) (some (V.tup [V.osl x3 x4]))
theorem E151 (y1 y2 y3 y4) {r : V} (h : T151 (orcE C) 0 0 0 0 y1 y2 y3 y4 = some r) : runE C 151 [V.sl y1 y2, V.sl y3 y4] = some r := ofR (j := 1) (F := fun s =>
 T151 (orc C s.k) s.k s.m 0 0 y1 y2 y3 y4) (fun _ => by kernel_rfl) (by
  unfold T151
  repeat' first | (with_reducible first | exact cC | refine cN cR fun _ => ?_ | refine cT fun _ => ?_ | refine cM ?_ | refine cO fun _ _ => ?_ | refine cN cC fun _ => ?_ | exact cR)) h

noncomputable def T126l4 (O : Orc) (k m q0 q1 : Nat) (y1 : Nat) (y2 y3 : List V) : Option V := bif decide ((↑y1 : Int) > 0) then PI.asInt .u32 y3[0]? fun x1 => PI.asInt .u32 y3[1]? fun x2 =>
 PI.asInt .u32 y3[2]? fun x3 => PI.asInt .u32 y3[3]? fun x4 => PI.asInt .u32 y3[4]? fun x5 => PI.asInt .u32 y3[5]? fun x6 => PI.asInt .u32 y3[6]? fun x7 => PI.asInt .u32 y3[7]? fun x8 => must (true &&
 decide (64 ≤ (↑y1 : Int))) (need (O.R 0 152 [V.agg [V.int .u32 x1, V.int .u32 x2, V.int .u32 x3, V.int .u32 x4, V.int .u32 x5, V.int .u32 x6, V.int .u32 x7, V.int .u32 x8], V.sl 64 (List.take 64
 (List.drop 0 y2))]) fun x9 => asTup (some x9) fun x10 => PI.asInt .u32 x10[0]? fun x11 => PI.asInt .u32 x10[1]? fun x12 => PI.asInt .u32 x10[2]? fun x13 => PI.asInt .u32 x10[3]? fun x14 => PI.asInt
 .u32 x10[4]? fun x15 => PI.asInt .u32 x10[5]? fun x16 => PI.asInt .u32 x10[6]? fun x17 => PI.asInt .u32 x10[7]? fun x18 => must ([V.int .u32 x11, V.int .u32 x12, V.int .u32 x13, V.int .u32 x14, V.int
 .u32 x15, V.int .u32 x16, V.int .u32 x17, V.int .u32 x18].length.beq 8 && true && (0 + [V.int .u32 x11, V.int .u32 x12, V.int .u32 x13, V.int .u32 x14, V.int .u32 x15, V.int .u32 x16, V.int .u32 x17,
 V.int .u32 x18].length).ble y3.length && flatB C 160 [V.int .u32 x11, V.int .u32 x12, V.int .u32 x13, V.int .u32 x14, V.int .u32 x15, V.int .u32 x16, V.int .u32 x17, V.int .u32 x18]) (must (true &&
 decide (64 ≤ (↑y1 : Int))) (O.L 0 126 6 [true, true, true, true, true, true, true, true, false] [] m [(3, V.sl (y1 - 64) (List.take ((y1 - 64) * 1) (List.drop 64 y2))), (8, V.ptr 0 0)] [Ob.box 160
 (splice y3 0 [V.int .u32 x11, V.int .u32 x12, V.int .u32 x13, V.int .u32 x14, V.int .u32 x15, V.int .u32 x16, V.int .u32 x17, V.int .u32 x18]) false]))) else PI.asInt .u32 y3[0]? fun x19 => PI.asInt
 .u32 y3[1]? fun x20 => PI.asInt .u32 y3[2]? fun x21 => PI.asInt .u32 y3[3]? fun x22 => PI.asInt .u32 y3[4]? fun x23 => PI.asInt .u32 y3[5]? fun x24 => PI.asInt .u32 y3[6]? fun x25 => PI.asInt .u32
 y3[7]? fun x26 => O.L 0 126 8 [true, true, true, true, true, true, true, true, true, true, false, true] [] k [(9, V.ref 0), (59, V.agg [V.int .u32 x19, V.int .u32 x20, V.int .u32 x21, V.int .u32 x22,
 V.int .u32 x23, V.int .u32 x24, V.int .u32 x25, V.int .u32 x26]), (60, V.int .i64 0)] [Ob.row 5 0 [] false]
theorem E126l4 (y1 y2 y3) {r : V} (h : T126l4 (orcE C) 0 0 0 0 y1 y2 y3 = some r) : loopE C 126 6 [true, true, true, true, true, true, true, true, false] [] [(3, V.ref 0),
 (8, V.ptr 1 0)] [Ob.row 5 y1 y2 false, Ob.box 160 y3 false] = some r := ofL (j := 0) (F := fun s => T126l4 (orc C s.k) s.k s.m 0 0 y1 y2 y3) (fs0 fun _ _ => by kernel_rfl) (by
  unfold T126l4
  repeat' first | (with_reducible first | exact cC | refine cN cR fun _ => ?_ | refine cT fun _ => ?_ | refine cI fun _ => ?_ | refine cM ?_ | refine cF ?_ ?_ | refine cN cC fun _ => ?_ | exact cR) | exact cD0 gK | exact cD0 gM) h

noncomputable def T156 (O : Orc) (k m q0 q1 : Nat) (y1 : Int) : Option V := some (V.tup [V.int .i64 (IntKind.i64.wrap (4294967295 - y1))])
theorem E156 (y1) {r : V} (h : T156 (orcE C) 0 0 0 0 y1 = some r) : runE C 156 [V.int .i64 y1] = some r := ofR (j := 1) (F := fun s => T156 (orc C s.k) s.k s.m 0 0 y1) (fun _ => by kernel_rfl) (by
  unfold T156
  exact cC) h

noncomputable def T158l1 (O : Orc) (k m q0 q1 : Nat) (y1 y2 : Int) : Option V := bif decide (IntKind.i64.wrap (2 * y2) < y1) then O.L 0 158 0 [true, true, false] [] m [(0, V.int .i64 y1), (3,
 V.int .i64 (IntKind.i64.wrap (y2 * 2)))] [] else some (V.tup [V.int .i64 y2])
theorem E158l1 (y1 y2) {r : V} (h : T158l1 (orcE C) 0 0 0 0 y1 y2 = some r) : loopE C 158 0 [true, true, false] [] [(0, V.int .i64 y1), (3, V.int .i64 y2)] [] = some r := ofL (j := 0) (F
 := fun s => T158l1 (orc C s.k) s.k s.m 0 0 y1 y2) (fs0 fun _ _ => by kernel_rfl) (by
  unfold T158l1
  repeat' first | (with_reducible first | exact cC | refine cF ?_ ?_) | exact cD0 gM) h

noncomputable def T152 (O : Orc) (k m q0 q1 : Nat) (y1 y2 y3 y4 y5 y6 y7 y8 : Int) (y9 : Nat) (y10 : List V) : Option V := O.L 0 152 0 [true,
 true, false, true] [] k [(1, V.sl y9 y10), (2, V.ptr 0 0), (4, V.ptr 1 0), (5, V.ptr 2 0), (16, V.int .i64 0)] [Ob.box 160 [V.int .u32 y1, V.int .u32 y2, V.int .u32 y3, V.int .u32 y4, V.int .u32 y5,
 V.int .u32 y6, V.int .u32 y7, V.int .u32 y8] false, Ob.box 160 [V.int .u32 0, V.int .u32 0, V.int .u32 0, V.int .u32 0, V.int .u32 0, V.int .u32 0, V.int .u32 0, V.int .u32 0] false, Ob.box 168 [V.int
 .u32 0, V.int .u32 0, V.int .u32 0, V.int .u32 0, V.int .u32 0, V.int .u32 0, V.int .u32 0, V.int .u32 0, V.int .u32 0, V.int .u32 0, V.int .u32 0, V.int .u32 0, V.int .u32 0, V.int .u32 0, V.int .u32
 0, V.int .u32 0, V.int .u32 0, V.int .u32 0, V.int .u32 0, V.int .u32 0, V.int .u32 0, V.int .u32 0, V.int .u32 0, V.int .u32 0, V.int .u32 0, V.int .u32 0, V.int .u32 0, V.int .u32 0, V.int .u32 0,
 V.int .u32 0, V.int .u32 0, V.int .u32 0, V.int .u32 0, V.int .u32 0, V.int .u32 0, V.int .u32 0, V.int .u32 0, V.int .u32 0, V.int .u32 0, V.int .u32 0, V.int .u32 0, V.int .u32 0, V.int .u32 0,
 V.int .u32 0, V.int .u32 0, V.int .u32 0, V.int .u32 0, V.int .u32 0, V.int .u32 0, V.int .u32 0, V.int .u32 0, V.int .u32 0, V.int .u32 0, V.int .u32 0, V.int .u32 0, V.int .u32 0, V.int .u32 0,
 V.int .u32 0, V.int .u32 0, V.int .u32 0, V.int .u32 0, V.int .u32 0, V.int .u32 0, V.int .u32 0] false]
theorem E152 (y1 y2 y3 y4 y5 y6 y7 y8 y9 y10) {r : V} (h : T152 (orcE C) 0 0 0 0 y1 y2 y3 y4 y5 y6 y7 y8 y9 y10 = some
 r) : runE C 152 [V.agg [V.int .u32 y1, V.int .u32 y2, V.int .u32 y3, V.int .u32 y4, V.int .u32 y5, V.int .u32 y6, V.int .u32 y7, V.int .u32 y8], V.sl y9 y10] = some r := ofR (j := 1) (F := fun s =>
 T152 (orc C s.k) s.k s.m 0 0 y1 y2 y3 y4 y5 y6 y7 y8 y9 y10) (fun _ => by kernel_rfl) (by
  unfold T152
  repeat' first | with_reducible exact cC | exact cD0 gK) h

noncomputable def T126l5 (O : Orc) (k m q0 q1 : Nat) (y1 : Nat) (y2 y3 : List V) : Option V := bif decide ((↑y1 : Int) > 0) then PI.asInt .u32 y3[0]? fun x1 => PI.asInt .u32 y3[1]? fun x2 =>
 PI.asInt .u32 y3[2]? fun x3 => PI.asInt .u32 y3[3]? fun x4 => PI.asInt .u32 y3[4]? fun x5 => PI.asInt .u32 y3[5]? fun x6 => PI.asInt .u32 y3[6]? fun x7 => PI.asInt .u32 y3[7]? fun x8 => must (true &&
 decide (64 ≤ (↑y1 : Int))) (need (O.R 0 152 [V.agg [V.int .u32 x1, V.int .u32 x2, V.int .u32 x3, V.int .u32 x4, V.int .u32 x5, V.int .u32 x6, V.int .u32 x7, V.int .u32 x8], V.sl 64 (List.take 64
 (List.drop 0 y2))]) fun x9 => asTup (some x9) fun x10 => PI.asInt .u32 x10[0]? fun x11 => PI.asInt .u32 x10[1]? fun x12 => PI.asInt .u32 x10[2]? fun x13 => PI.asInt .u32 x10[3]? fun x14 => PI.asInt
 .u32 x10[4]? fun x15 => PI.asInt .u32 x10[5]? fun x16 => PI.asInt .u32 x10[6]? fun x17 => PI.asInt .u32 x10[7]? fun x18 => must ([V.int .u32 x11, V.int .u32 x12, V.int .u32 x13, V.int .u32 x14, V.int
 .u32 x15, V.int .u32 x16, V.int .u32 x17, V.int .u32 x18].length.beq 8 && true && (0 + [V.int .u32 x11, V.int .u32 x12, V.int .u32 x13, V.int .u32 x14, V.int .u32 x15, V.int .u32 x16, V.int .u32 x17,
 V.int .u32 x18].length).ble y3.length && flatB C 160 [V.int .u32 x11, V.int .u32 x12, V.int .u32 x13, V.int .u32 x14, V.int .u32 x15, V.int .u32 x16, V.int .u32 x17, V.int .u32 x18]) (must (true &&
 decide (64 ≤ (↑y1 : Int))) (O.L 0 126 6 [true, true, true, true, true, true, true, true, false] [] m [(3, V.sl (y1 - 64) (List.take ((y1 - 64) * 1) (List.drop 64 y2))), (8, V.ptr 0 0)] [Ob.box 160
 (splice y3 0 [V.int .u32 x11, V.int .u32 x12, V.int .u32 x13, V.int .u32 x14, V.int .u32 x15, V.int .u32 x16, V.int .u32 x17, V.int .u32 x18]) false]))) else PI.asInt .u32 y3[0]? fun x19 => PI.asInt
 .u32 y3[1]? fun x20 => PI.asInt .u32 y3[2]? fun x21 => PI.asInt .u32 y3[3]? fun x22 => PI.asInt .u32 y3[4]? fun x23 => PI.asInt .u32 y3[5]? fun x24 => PI.asInt .u32 y3[6]? fun x25 => PI.asInt .u32
 y3[7]? fun x26 => O.L 0 126 8 [true, true, true, true, true, true, true, true, true, true, false, true] [] k [(9, V.ref 0), (59, V.agg [V.int .u32 x19, V.int .u32 x20, V.int .u32 x21, V.int .u32 x22,
 V.int .u32 x23, V.int .u32 x24, V.int .u32 x25, V.int .u32 x26]), (60, V.int .i64 0)] [Ob.row 5 0 [] false]
theorem E126l5 (y1 y2 y3) {r : V} (h : T126l5 (orcE C) 0 0 0 0 y1 y2 y3 = some r) : loopE C 126 6 [true, true, true, true, true, true, true, true, false] [] [(3, V.sl y1
 y2), (8, V.ptr 0 0)] [Ob.box 160 y3 false] = some r := ofL (j := 0) (F := fun s => T126l5 (orc C s.k) s.k s.m 0 0 y1 y2 y3) (fs0 fun _ _ => by kernel_rfl) (by
  unfold T126l5
  repeat' first | (with_reducible first | exact cC | refine cN cR fun _ => ?_ | refine cT fun _ => ?_ | refine cI fun _ => ?_ | refine cM ?_ | refine cF ?_ ?_ | refine cN cC fun _ => ?_ | exact cR) | exact cD0 gK | exact cD0 gM) h

noncomputable def T126l6 (O : Orc) (k m q0 q1 : Nat) (y1 y2 y3 y4 y5 y6 y7 y8 y9 : Int) (y10 : Nat) (y11 : List V) : Option V := bif
 decide (y9 < 8) then must (inB y9 8) (PI.asInt .u32 [V.int .u32 y1, V.int .u32 y2, V.int .u32 y3, V.int .u32 y4, V.int .u32 y5, V.int .u32 y6, V.int .u32 y7, V.int .u32 y8][y9.toNat * 1]? fun x1 =>
 must (true && (y10 + 4).ble 140737488355328 && ((y10 + 4) * 1).ble 140737488355328) (O.L 0 126 8 [true, true, true, true, true, true, true, true, true, true, false, true] [] m [(9, V.ref 0), (59,
 V.agg [V.int .u32 y1, V.int .u32 y2, V.int .u32 y3, V.int .u32 y4, V.int .u32 y5, V.int .u32 y6, V.int .u32 y7, V.int .u32 y8]), (60, V.int .i64 (IntKind.i64.wrap (y9 + 1)))] [Ob.row 5 (y10 + 4) (y11
 ++ [V.int .u8 (IntKind.u8.wrap (x1.fdiv 16777216)), V.int .u8 (IntKind.u8.wrap (x1.fdiv 65536)), V.int .u8 (IntKind.u8.wrap (x1.fdiv 256)), V.int .u8 (IntKind.u8.wrap x1)]) false])) else must (false
 || y11.all flatV) (some (V.tup [V.osl y10 y11]))
theorem E126l6 (y1 y2 y3 y4 y5 y6 y7 y8 y9 y10 y11) {r : V} (h : T126l6 (orcE C) 0 0 0 0 y1 y2 y3 y4 y5 y6 y7 y8
 y9 y10 y11 = some r) : loopE C 126 8 [true, true, true, true, true, true, true, true, true, true, false, true] [] [(9, V.ref 0), (59, V.agg [V.int .u32 y1, V.int .u32 y2, V.int .u32 y3, V.int .u32 y4,
 V.int .u32 y5, V.int .u32 y6, V.int .u32 y7, V.int .u32 y8]), (60, V.int .i64 y9)] [Ob.row 5 y10 y11 false] = some r := ofL (j := 0) (F := fun s => T126l6 (orc C s.k) s.k s.m 0 0 y1 y2 y3 y4 y5 y6 y7
 y8 y9 y10 y11) (fs0 fun _ _ => by kernel_rfl) (by
  unfold T126l6
  repeat' first | (with_reducible first | exact cC | refine cI fun _ => ?_ | refine cM ?_ | refine cF ?_ ?_) | exact cD0 gM) h

noncomputable def T152l1 (O : Orc) (k m q0 q1 : Nat) (y1 : Nat) (y2 : List V) (y3 : Int) (y4 y5 y6 : List V) : Option V := bif decide (y3 < 64) then bif decide (y3 < 16) then must
 (inB (IntKind.i64.wrap (4 * y3)) y1) (PI.asInt .u8 y2[(IntKind.i64.wrap (4 * y3)).toNat * 1]? fun x1 => must (inB (IntKind.i64.wrap (IntKind.i64.wrap (4 * y3) + 1)) y1) (PI.asInt .u8
 y2[(IntKind.i64.wrap (IntKind.i64.wrap (4 * y3) + 1)).toNat * 1]? fun x2 => must (inB (IntKind.i64.wrap (IntKind.i64.wrap (4 * y3) + 2)) y1) (PI.asInt .u8 y2[(IntKind.i64.wrap (IntKind.i64.wrap (4 *
 y3) + 2)).toNat * 1]? fun x3 => must (inB (IntKind.i64.wrap (IntKind.i64.wrap (4 * y3) + 3)) y1) (PI.asInt .u8 y2[(IntKind.i64.wrap (IntKind.i64.wrap (4 * y3) + 3)).toNat * 1]? fun x4 => must (inB y3
 64) (must ((V.int .u32 (PI.bits IntKind.u32 (fun x1 x2 => x1 ||| x2) (PI.bits IntKind.u32 (fun x1 x2 => x1 ||| x2) (PI.bits IntKind.u32 (fun x1 x2 => x1 ||| x2) (IntKind.u32.wrap (IntKind.u32.wrap x1
 * 16777216)) (IntKind.u32.wrap (IntKind.u32.wrap x2 * 65536))) (IntKind.u32.wrap (IntKind.u32.wrap x3 * 256))) (IntKind.u32.wrap x4))).solid && true && (0 + y3.toNat * 1 + 1).ble y6.length && flatB C
 168 [V.int .u32 (PI.bits IntKind.u32 (fun x1 x2 => x1 ||| x2) (PI.bits IntKind.u32 (fun x1 x2 => x1 ||| x2) (PI.bits IntKind.u32 (fun x1 x2 => x1 ||| x2) (IntKind.u32.wrap (IntKind.u32.wrap x1 *
 16777216)) (IntKind.u32.wrap (IntKind.u32.wrap x2 * 65536))) (IntKind.u32.wrap (IntKind.u32.wrap x3 * 256))) (IntKind.u32.wrap x4))]) (O.L 0 152 0 [true, true, false, true] [] m [(1, V.sl y1 y2), (2,
 V.ptr 0 0), (4, V.ptr 1 0), (5, V.ptr 2 0), (16, V.int .i64 (IntKind.i64.wrap (y3 + 1)))] [Ob.box 160 y4 false, Ob.box 160 y5 false, Ob.box 168 (splice y6 (0 + y3.toNat * 1) [V.int .u32 (PI.bits
 IntKind.u32 (fun x1 x2 => x1 ||| x2) (PI.bits IntKind.u32 (fun x1 x2 => x1 ||| x2) (PI.bits IntKind.u32 (fun x1 x2 => x1 ||| x2) (IntKind.u32.wrap (IntKind.u32.wrap x1 * 16777216)) (IntKind.u32.wrap
 (IntKind.u32.wrap x2 * 65536))) (IntKind.u32.wrap (IntKind.u32.wrap x3 * 256))) (IntKind.u32.wrap x4))]) false])))))) else must (inB (IntKind.i64.wrap (y3 - 15)) 64) (PI.asInt .u32 y6[0 +
 (IntKind.i64.wrap (y3 - 15)).toNat * 1]? fun x5 => must (inB (IntKind.i64.wrap (y3 - 2)) 64) (PI.asInt .u32 y6[0 + (IntKind.i64.wrap (y3 - 2)).toNat * 1]? fun x6 => need (O.R 0 159 [V.int .u32 x5,
 V.int .i64 (-7)]) fun x7 => asTup (some x7) fun x8 => PI.asInt .u32 x8[0]? fun x9 => need (O.R 0 159 [V.int .u32 x5, V.int .i64 (-18)]) fun x10 => asTup (some x10) fun x11 => PI.asInt .u32 x11[0]? fun
 x12 => need (O.R 0 159 [V.int .u32 x6, V.int .i64 (-17)]) fun x13 => asTup (some x13) fun x14 => PI.asInt .u32 x14[0]? fun x15 => need (O.R 0 159 [V.int .u32 x6, V.int .i64 (-19)]) fun x16 => asTup
 (some x16) fun x17 => PI.asInt .u32 x17[0]? fun x18 => must (inB (IntKind.i64.wrap (y3 - 7)) 64) (PI.asInt .u32 y6[0 + (IntKind.i64.wrap (y3 - 7)).toNat * 1]? fun x19 => must (inB (IntKind.i64.wrap
 (y3 - 16)) 64) (PI.asInt .u32 y6[0 + (IntKind.i64.wrap (y3 - 16)).toNat * 1]? fun x20 => must (inB y3 64) (must ((V.int .u32 (IntKind.u32.wrap (IntKind.u32.wrap (IntKind.u32.wrap (PI.bits IntKind.u32
 (fun x1 x2 => x1 ^^^ x2) (PI.bits IntKind.u32 (fun x1 x2 => x1 ^^^ x2) x15 x18) (x6.fdiv 1024) + x19) + PI.bits IntKind.u32 (fun x1 x2 => x1 ^^^ x2) (PI.bits IntKind.u32 (fun x1 x2 => x1 ^^^ x2) x9
 x12) (x5.fdiv 8)) + x20))).solid && true && (0 + y3.toNat * 1 + 1).ble y6.length && flatB C 168 [V.int .u32 (IntKind.u32.wrap (IntKind.u32.wrap (IntKind.u32.wrap (PI.bits IntKind.u32 (fun x1 x2 => x1
 ^^^ x2) (PI.bits IntKind.u32 (fun x1 x2 => x1 ^^^ x2) x15 x18) (x6.fdiv 1024) + x19) + PI.bits IntKind.u32 (fun x1 x2 => x1 ^^^ x2) (PI.bits IntKind.u32 (fun x1 x2 => x1 ^^^ x2) x9 x12) (x5.fdiv 8)) +
 x20))]) (O.L 0 152 0 [true, true, false, true] [] m [(1, V.sl y1 y2), (2, V.ptr 0 0), (4, V.ptr 1 0), (5, V.ptr 2 0), (16, V.int .i64 (IntKind.i64.wrap (y3 + 1)))] [Ob.box 160 y4 false, Ob.box 160 y5
 false, Ob.box 168 (splice y6 (0 + y3.toNat * 1) [V.int .u32 (IntKind.u32.wrap (IntKind.u32.wrap (IntKind.u32.wrap (PI.bits IntKind.u32 (fun x1 x2 => x1 ^^^ x2) (PI.bits IntKind.u32 (fun x1 x2 => x1
 ^^^ x2) x15 x18) (x6.fdiv 1024) + x19) + PI.bits IntKind.u32 (fun x1 x2 => x1 ^^^ x2) (PI.bits IntKind.u32 (fun x1 x2 => x1 ^^^ x2) x9 x12) (x5.fdiv 8)) + x20))]) false])))))) else PI.asInt .u32
 y4[0]? fun x21 => PI.asInt .u32 y4[1]? fun x22 => PI.asInt .u32 y4[2]? fun x23 => PI.asInt .u32 y4[3]? fun x24 => PI.asInt .u32 y4[4]? fun x25 => PI.asInt .u32 y4[5]? fun x26 => PI.asInt .u32 y4[6]?
 fun x27 => PI.asInt .u32 y4[7]? fun x28 => need (O.R 0 160 []) fun x29 => PI.asAgg (some x29) fun x30 => O.L 0 152 2 [true, true, true, true, false, true] [] k [(2, V.ptr 0 0), (4, V.ptr 1 0), (5,
 V.ptr 2 0), (11, V.ptr 3 0), (97, V.agg (renV.renL [] x30)), (98, V.int .i64 0)] [Ob.box 160 y4 false, Ob.box 160 y5 false, Ob.box 168 y6 false, Ob.box 160 [V.int .u32 x21, V.int .u32 x22, V.int .u32
 x23, V.int .u32 x24, V.int .u32 x25, V.int .u32 x26, V.int .u32 x27, V.int .u32 x28] false]
theorem E152l1 (y1 y2 y3 y4 y5 y6) {r : V} (h : T152l1 (orcE C) 0 0 0 0 y1 y2 y3 y4 y5 y6 = some r) : loopE C 152 0 [true, true, false, true]
 [] [(1, V.sl y1 y2), (2, V.ptr 0 0), (4, V.ptr 1 0), (5, V.ptr 2 0), (16, V.int .i64 y3)] [Ob.box 160 y4 false, Ob.box 160 y5 false, Ob.box 168 y6 false] = some r := ofL (j := 0) (F := fun s => T152l1
 (orc C s.k) s.k s.m 0 0 y1 y2 y3 y4 y5 y6) (fs0 fun _ _ => by kernel_rfl) (by
  unfold T152l1
  repeat' first | (with_reducible first | exact cC | refine cN cR fun _ => ?_ | refine cT fun _ => ?_ | refine cI fun _ => ?_ | refine cM ?_ | refine cF ?_ ?_ | refine cA fun _ => ?_ | refine cN cC fun _ => ?_ | exact cR) | exact cD0 gK | exact cD0 gM) h

noncomputable def T159 (O : Orc) (k m q0 q1 : Nat) (y1 y2 : Int) : Option V := must (decide (0 ≤ IntKind.u64.wrap (32 - PI.bits IntKind.u64 (fun x1 x2 => x1 &&& x2) (IntKind.u64.wrap y2) 31)))
 (some (V.tup [V.int .u32 (PI.bits IntKind.u32 (fun x1 x2 => x1 ||| x2) (IntKind.u32.wrap (y1 * 2 ^ min (PI.bits IntKind.u64 (fun x1 x2 => x1 &&& x2) (IntKind.u64.wrap y2) 31).toNat 32)) (y1.fdiv (2 ^
 min (IntKind.u64.wrap (32 - PI.bits IntKind.u64 (fun x1 x2 => x1 &&& x2) (IntKind.u64.wrap y2) 31)).toNat 32)))]))
theorem E159 (y1 y2) {r : V} (h : T159 (orcE C) 0 0 0 0 y1 y2 = some r) : runE C 159 [V.int .u32 y1, V.int .i64 y2] = some r := ofR (j := 1) (F := fun s => T159 (orc C s.k) s.k s.m 0 0 y1
 y2) (fun _ => by kernel_rfl) (by
  unfold T159
  repeat' first | (with_reducible first | exact cC | refine cM ?_)) h

noncomputable def T160 (O : Orc) (k m q0 q1 : Nat)  : Option V := some (V.agg [V.int .u32 1116352408, V.int .u32 1899447441, V.int .u32 3049323471, V.int .u32 3921009573, V.int .u32 961987163, V.int
 .u32 1508970993, V.int .u32 2453635748, V.int .u32 2870763221, V.int .u32 3624381080, V.int .u32 310598401, V.int .u32 607225278, V.int .u32 1426881987, V.int .u32 1925078388, V.int .u32 2162078206,
 V.int .u32 2614888103, V.int .u32 3248222580, V.int .u32 3835390401, V.int .u32 4022224774, V.int .u32 264347078, V.int .u32 604807628, V.int .u32 770255983, V.int .u32 1249150122, V.int .u32
 1555081692, V.int .u32 1996064986, V.int .u32 2554220882, V.int .u32 2821834349, V.int .u32 2952996808, V.int .u32 3210313671, V.int .u32 3336571891, V.int .u32 3584528711, V.int .u32 113926993, V.int
 .u32 338241895, V.int .u32 666307205, V.int .u32 773529912, V.int .u32 1294757372, V.int .u32 1396182291, V.int .u32 1695183700, V.int .u32 1986661051, V.int .u32 2177026350, V.int .u32 2456956037,
 V.int .u32 2730485921, V.int .u32 2820302411, V.int .u32 3259730800, V.int .u32 3345764771, V.int .u32 3516065817, V.int .u32 3600352804, V.int .u32 4094571909, V.int .u32 275423344, V.int .u32
 430227734, V.int .u32 506948616, V.int .u32 659060556, V.int .u32 883997877, V.int .u32 958139571, V.int .u32 1322822218, V.int .u32 1537002063, V.int .u32 1747873779, V.int .u32 1955562222, V.int
 .u32 2024104815, V.int .u32 2227730452, V.int .u32 2361852424, V.int .u32 2428436474, V.int .u32 2756734187, V.int .u32 3204031479, V.int .u32 3329325298])
theorem E160  {r : V} (h : T160 (orcE C) 0 0 0 0  = some r) : runE C 160 [] = some r := ofR (j := 1) (F := fun s => T160 (orc C s.k) s.k s.m 0 0 ) (fun _ => by kernel_rfl) (by
  unfold T160
  exact cC) h

noncomputable def T152l2 (O : Orc) (k m q0 q1 : Nat) (y1 : List V) (y2 : Int) (y3 y4 y5 y6 : List V) : Option V := bif decide (y2 < 64) then must (inB y2 64) (PI.asInt
 .u32 y1[y2.toNat * 1]? fun x1 => PI.asInt .u32 y6[0]? fun x2 => PI.asInt .u32 y6[1]? fun x3 => PI.asInt .u32 y6[2]? fun x4 => PI.asInt .u32 y6[3]? fun x5 => PI.asInt .u32 y6[4]? fun x6 => PI.asInt
 .u32 y6[5]? fun x7 => PI.asInt .u32 y6[6]? fun x8 => PI.asInt .u32 y6[7]? fun x9 => must (inB y2 64) (PI.asInt .u32 y5[0 + y2.toNat * 1]? fun x10 => need (O.R 0 161 [V.agg [V.int .u32 x2, V.int .u32
 x3, V.int .u32 x4, V.int .u32 x5, V.int .u32 x6, V.int .u32 x7, V.int .u32 x8, V.int .u32 x9], V.int .u32 x10, V.int .u32 x1]) fun x11 => asTup (some x11) fun x12 => PI.asInt .u32 x12[0]? fun x13 =>
 PI.asInt .u32 x12[1]? fun x14 => PI.asInt .u32 x12[2]? fun x15 => PI.asInt .u32 x12[3]? fun x16 => PI.asInt .u32 x12[4]? fun x17 => PI.asInt .u32 x12[5]? fun x18 => PI.asInt .u32 x12[6]? fun x19 =>
 PI.asInt .u32 x12[7]? fun x20 => must ([V.int .u32 x13, V.int .u32 x14, V.int .u32 x15, V.int .u32 x16, V.int .u32 x17, V.int .u32 x18, V.int .u32 x19, V.int .u32 x20].length.beq 8 && true && (0 +
 [V.int .u32 x13, V.int .u32 x14, V.int .u32 x15, V.int .u32 x16, V.int .u32 x17, V.int .u32 x18, V.int .u32 x19, V.int .u32 x20].length).ble y6.length && flatB C 160 [V.int .u32 x13, V.int .u32 x14,
 V.int .u32 x15, V.int .u32 x16, V.int .u32 x17, V.int .u32 x18, V.int .u32 x19, V.int .u32 x20]) (O.L 0 152 2 [true, true, true, true, false, true] [] m [(2, V.ptr 0 0), (4, V.ptr 1 0), (5, V.ptr 2
 0), (11, V.ptr 3 0), (97, V.agg (renV.renL [] y1)), (98, V.int .i64 (IntKind.i64.wrap (y2 + 1)))] [Ob.box 160 y3 false, Ob.box 160 y4 false, Ob.box 168 y5 false, Ob.box 160 (splice y6 0 [V.int .u32
 x13, V.int .u32 x14, V.int .u32 x15, V.int .u32 x16, V.int .u32 x17, V.int .u32 x18, V.int .u32 x19, V.int .u32 x20]) false]))) else O.L 0 152 4 [true, true, true, true, true, false, true] [] k [(2,
 V.ptr 0 0), (4, V.ptr 1 0), (11, V.ptr 2 0), (109, V.int .i64 0)] [Ob.box 160 y3 false, Ob.box 160 y4 false, Ob.box 160 y6 false]
theorem E152l2 (y1 y2 y3 y4 y5 y6) {r : V} (h : T152l2 (orcE C) 0 0 0 0 y1 y2 y3 y4 y5 y6 = some r) : loopE C 152 2 [true, true, true, true,
 false, true] [] [(2, V.ptr 0 0), (4, V.ptr 1 0), (5, V.ptr 2 0), (11, V.ptr 3 0), (97, V.agg y1), (98, V.int .i64 y2)] [Ob.box 160 y3 false, Ob.box 160 y4 false, Ob.box 168 y5 false, Ob.box 160 y6
 false] = some r := ofL (j := 0) (F := fun s => T152l2 (orc C s.k) s.k s.m 0 0 y1 y2 y3 y4 y5 y6) (fs0 fun _ _ => by kernel_rfl) (by
  unfold T152l2
  repeat' first | (with_reducible first | exact cC | refine cN cR fun _ => ?_ | refine cT fun _ => ?_ | refine cI fun _ => ?_ | refine cM ?_ | refine cF ?_ ?_ | refine cN cC fun _ => ?_ | exact cR) | exact cD0 gK | exact cD0 gM) h

noncomputable def T161 (O : Orc) (k m q0 q1 : Nat) (y1 y2 y3 y4 y5 y6 y7 y8 y9 y10 : Int) : Option V := need (O.R 0 162 [V.int
 .u32 y5, V.int .i64 6]) fun x1 => asTup (some x1) fun x2 => PI.asInt .u32 x2[0]? fun x3 => need (O.R 0 162 [V.int .u32 y5, V.int .i64 11]) fun x4 => asTup (some x4) fun x5 => PI.asInt .u32 x5[0]? fun
 x6 => need (O.R 0 162 [V.int .u32 y5, V.int .i64 25]) fun x7 => asTup (some x7) fun x8 => PI.asInt .u32 x8[0]? fun x9 => need (O.R 0 162 [V.int .u32 y1, V.int .i64 2]) fun x10 => asTup (some x10) fun
 x11 => PI.asInt .u32 x11[0]? fun x12 => need (O.R 0 162 [V.int .u32 y1, V.int .i64 13]) fun x13 => asTup (some x13) fun x14 => PI.asInt .u32 x14[0]? fun x15 => need (O.R 0 162 [V.int .u32 y1, V.int
 .i64 22]) fun x16 => asTup (some x16) fun x17 => PI.asInt .u32 x17[0]? fun x18 => some (V.tup [V.int .u32 (IntKind.u32.wrap (IntKind.u32.wrap (IntKind.u32.wrap (IntKind.u32.wrap (IntKind.u32.wrap (y8
 + PI.bits IntKind.u32 (fun x1 x2 => x1 ^^^ x2) (PI.bits IntKind.u32 (fun x1 x2 => x1 ^^^ x2) x3 x6) x9) + PI.bits IntKind.u32 (fun x1 x2 => x1 ^^^ x2) (PI.bits IntKind.u32 (fun x1 x2 => x1 &&& x2) y5
 y6) (PI.bits IntKind.u32 (fun x1 x2 => x1 &&& x2) (PI.bits IntKind.u32 (fun x1 x2 => x1 ^^^ x2) 4294967295 y5) y7)) + y10) + y9) + IntKind.u32.wrap (PI.bits IntKind.u32 (fun x1 x2 => x1 ^^^ x2)
 (PI.bits IntKind.u32 (fun x1 x2 => x1 ^^^ x2) x12 x15) x18 + PI.bits IntKind.u32 (fun x1 x2 => x1 ^^^ x2) (PI.bits IntKind.u32 (fun x1 x2 => x1 ^^^ x2) (PI.bits IntKind.u32 (fun x1 x2 => x1 &&& x2) y1
 y2) (PI.bits IntKind.u32 (fun x1 x2 => x1 &&& x2) y1 y3)) (PI.bits IntKind.u32 (fun x1 x2 => x1 &&& x2) y2 y3)))), V.int .u32 y1, V.int .u32 y2, V.int .u32 y3, V.int .u32 (IntKind.u32.wrap (y4 +
 IntKind.u32.wrap (IntKind.u32.wrap (IntKind.u32.wrap (IntKind.u32.wrap (y8 + PI.bits IntKind.u32 (fun x1 x2 => x1 ^^^ x2) (PI.bits IntKind.u32 (fun x1 x2 => x1 ^^^ x2) x3 x6) x9) + PI.bits IntKind.u32
 (fun x1 x2 => x1 ^^^ x2) (PI.bits IntKind.u32 (fun x1 x2 => x1 &&& x2) y5 y6) (PI.bits IntKind.u32 (fun x1 x2 => x1 &&& x2) (PI.bits IntKind.u32 (fun x1 x2 => x1 ^^^ x2) 4294967295 y5) y7)) + y10) +
 y9))), V.int .u32 y5, V.int .u32 y6, V.int .u32 y7])
theorem E161 (y1 y2 y3 y4 y5 y6 y7 y8 y9 y10) {r : V} (h : T161 (orcE C) 0 0 0 0 y1 y2 y3 y4 y5 y6 y7 y8 y9 y10 = some r) :
 runE C 161 [V.agg [V.int .u32 y1, V.int .u32 y2, V.int .u32 y3, V.int .u32 y4, V.int .u32 y5, V.int .u32 y6, V.int .u32 y7, V.int .u32 y8], V.int .u32 y9, V.int .u32 y10] = some r := ofR (j := 1) (F
 := fun s => T161 (orc C s.k) s.k s.m 0 0 y1 y2 y3 y4 y5 y6 y7 y8 y9 y10) (fun _ => by kernel_rfl) (by
  unfold T161
  repeat' first | (with_reducible first | exact cC | refine cN cR fun _ => ?_ | refine cT fun _ => ?_ | refine cI fun _ => ?_ | refine cN cC fun _ => ?_ | exact cR)) h

noncomputable def T152l3 (O : Orc) (k m q0 q1 : Nat) (y1 : Int) (y2 y3 y4 : List V) : Option V := bif decide (y1 < 8) then must (inB y1 8) (PI.asInt .u32 y4[0 + y1.toNat * 1]? fun
 x1 => must (inB y1 8) (PI.asInt .u32 y2[0 + y1.toNat * 1]? fun x2 => must (inB y1 8) (must ((V.int .u32 (IntKind.u32.wrap (x1 + x2))).solid && true && (0 + y1.toNat * 1 + 1).ble y4.length && flatB C
 160 [V.int .u32 (IntKind.u32.wrap (x1 + x2))]) (O.L 0 152 4 [true, true, true, true, true, false, true] [] m [(2, V.ptr 0 0), (4, V.ptr 1 0), (11, V.ptr 2 0), (109, V.int .i64 (IntKind.i64.wrap (y1 +
 1)))] [Ob.box 160 y2 false, Ob.box 160 y3 false, Ob.box 160 (splice y4 (0 + y1.toNat * 1) [V.int .u32 (IntKind.u32.wrap (x1 + x2))]) false])))) else PI.asInt .u32 y4[0]? fun x3 => PI.asInt .u32 y4[1]?
 fun x4 => PI.asInt .u32 y4[2]? fun x5 => PI.asInt .u32 y4[3]? fun x6 => PI.asInt .u32 y4[4]? fun x7 => PI.asInt .u32 y4[5]? fun x8 => PI.asInt .u32 y4[6]? fun x9 => PI.asInt .u32 y4[7]? fun x10 =>
 must ([V.int .u32 x3, V.int .u32 x4, V.int .u32 x5, V.int .u32 x6, V.int .u32 x7, V.int .u32 x8, V.int .u32 x9, V.int .u32 x10].length.beq 8 && true && (0 + [V.int .u32 x3, V.int .u32 x4, V.int .u32
 x5, V.int .u32 x6, V.int .u32 x7, V.int .u32 x8, V.int .u32 x9, V.int .u32 x10].length).ble y3.length && flatB C 160 [V.int .u32 x3, V.int .u32 x4, V.int .u32 x5, V.int .u32 x6, V.int .u32 x7, V.int
 .u32 x8, V.int .u32 x9, V.int .u32 x10]) (some (V.tup [V.int .u32 x3, V.int .u32 x4, V.int .u32 x5, V.int .u32 x6, V.int .u32 x7, V.int .u32 x8, V.int .u32 x9, V.int .u32 x10]))
theorem E152l3 (y1 y2 y3 y4) {r : V} (h : T152l3 (orcE C) 0 0 0 0 y1 y2 y3 y4 = some r) : loopE C 152 4 [true, true, true, true, true, false, true] [] [(2, V.ptr
 0 0), (4, V.ptr 1 0), (11, V.ptr 2 0), (109, V.int .i64 y1)] [Ob.box 160 y2 false, Ob.box 160 y3 false, Ob.box 160 y4 false] = some r := ofL (j := 0) (F := fun s => T152l3 (orc C s.k) s.k s.m 0 0 y1
 y2 y3 y4) (fs0 fun _ _ => by kernel_rfl) (by
  unfold T152l3
  repeat' first | (with_reducible first | exact cC | refine cI fun _ => ?_ | refine cM ?_ | refine cF ?_ ?_) | exact cD0 gM) h

noncomputable def T162 (O : Orc) (k m q0 q1 : Nat) (y1 y2 : Int) : Option V := need (O.R 0 159 [V.int .u32 y1, V.int .i64 (IntKind.i64.wrap (0 - y2))]) fun x1 => asTup (some x1) fun x2 =>
 PI.asInt .u32 x2[0]? fun x3 => some (V.tup [V.int .u32 x3])
theorem E162 (y1 y2) {r : V} (h : T162 (orcE C) 0 0 0 0 y1 y2 = some r) : runE C 162 [V.int .u32 y1, V.int .i64 y2] = some r := ofR (j := 1) (F := fun s => T162 (orc C s.k) s.k s.m 0 0 y1
 y2) (fun _ => by kernel_rfl) (by
  unfold T162
  repeat' first | (with_reducible first | exact cC | refine cN cR fun _ => ?_ | refine cT fun _ => ?_ | refine cI fun _ => ?_ | refine cN cC fun _ => ?_ | exact cR)) h

end Go.Proofs.YtgbpimaidhhnjaaGreat.EqV

