/-
  The functions of a table, as the interpreter tells them. Printed by a program.
-/
import Derived.Test.YtodapaplfjfnlaaGreatPIEqFx
noncomputable section
namespace Go.Proofs.YtodapaplfjfnlaaGreat.EqF
open Go Go.PI V IntKind
set_option maxRecDepth 100000
set_option maxHeartbeats 4000000
set_option linter.unusedVariables false
set_option linter.unusedSimpArgs false
def T162 (O : Orc) (k : Nat) (y1 : Nat) (y2 : List V) (y3 : Nat) (y4 : List V) (y5 y6 : Int) (y7 : Nat) (y8 : List V) : Option V := need (O.R 0 196 [agg [int .i64 y5,
 int .i64 y6, sl y7 y8]]) fun x1 => asTup (some x1) fun x2 => PI.asBool x2[0]? fun x3 => bif !x3 then some (tup [bool false]) else need (O.R 0 197 [sl y3 y4]) fun x4 => asTup (some x4) fun x5
 => asOsl x5[0]? fun x6 x7 => need (O.R 0 198 [int .i64 y6, int .i64 y5]) fun x8 => asTup (some x8) fun x9 => asOsl x9[0]? fun x10 x11 => O.L 0 162 0 [true, true, true, false, true] [] k [(0, sl
 y1 y2), (5, ptr 0 0), (7, ref 1), (19, ref 2), (20, int .i64 (↑x10 : Int)), (21, int .i64 0)] [Ob.box 66 [int .i64 y5, int .i64 y6, sl y7 y8] false, Ob.row 5 x6 x7 false, Ob.row 4 x10
 x11 false]
theorem E162 (y1 y2 y3 y4 y5 y6 y7 y8) {r : V} (h : T162 (orcE C) 0 y1 y2 y3 y4 y5 y6 y7 y8 = some r) : runE C 162 [sl y1
 y2, sl y3 y4, agg [int .i64 y5, int .i64 y6, sl y7 y8]] = some r := ofR (j := 1) (F := fun s => T162 (orc C s.k) s.k y1 y2 y3 y4 y5 y6 y7 y8) (fun _ => by kernel_rfl) (by
  unfold T162
  repeat' first | (with_reducible first | intro _ | exact cC | apply cN cR | apply cT | apply cF | apply cB | apply cO | apply cN cC | exact cR) | exact cD0 gK) h
def T137 (O : Orc) (k : Nat) (y1 : Nat) (y2 : List V) : Option V := O.L 0 137 0 [true, true, false, true] [] k [(0, sl y1 y2), (3, ref 0), (4, int .i64 0)] [Ob.nrow [] 22 0
 []]
theorem E137 (y1 y2) {r : V} (h : T137 (orcE C) 0 y1 y2 = some r) : runE C 137 [sl y1 y2] = some r := ofR (j := 1) (F := fun s => T137 (orc C s.k) s.k y1 y2) (fun _ =>
 by kernel_rfl) (by
  unfold T137
  repeat' first | with_reducible exact cC | exact cD0 gK) h
def T186 (O : Orc) (k : Nat) (y1 : Nat) (y2 : List V) : Option V := need (O.R 0 212 []) fun x1 => PI.asAgg (some x1) fun x2 => must (x2.length.beq 64 && true && (0 +
 x2.length).ble 64 && flatB C 217 x2) (need (O.R 0 213 []) fun x3 => asTup (some x3) fun x4 => PI.asInt .i64 x4[0]? fun x5 => PI.asInt .i64 x4[1]? fun x6 => PI.asInt .i64 x4[2]? fun x7 => PI.asInt .i64
 x4[3]? fun x8 => PI.asInt .i64 x4[4]? fun x9 => PI.asInt .i64 x4[5]? fun x10 => PI.asInt .i64 x4[6]? fun x11 => PI.asInt .i64 x4[7]? fun x12 => need (O.R 0 214 [sl y1 y2]) fun x13 => asTup (some
 x13) fun x14 => asSl x14[0]? fun x15 x16 => O.L 0 186 0 [true, true, true, true, false, true] [] k [(3, ptr 0 0), (4, ptr 1 0), (5, sl x15 x16), (6, int .i64 0)] [Ob.box 217 (splice [int
 .i64 0, int .i64 0, int .i64 0, int .i64 0, int .i64 0, int .i64 0, int .i64 0, int .i64 0, int .i64 0, int .i64 0, int .i64 0, int .i64 0, int .i64 0, int .i64 0, int .i64
 0, int .i64 0, int .i64 0, int .i64 0, int .i64 0, int .i64 0, int .i64 0, int .i64 0, int .i64 0, int .i64 0, int .i64 0, int .i64 0, int .i64 0, int .i64 0, int .i64 0,
 int .i64 0, int .i64 0, int .i64 0, int .i64 0, int .i64 0, int .i64 0, int .i64 0, int .i64 0, int .i64 0, int .i64 0, int .i64 0, int .i64 0, int .i64 0, int .i64 0,
 int .i64 0, int .i64 0, int .i64 0, int .i64 0, int .i64 0, int .i64 0, int .i64 0, int .i64 0, int .i64 0, int .i64 0, int .i64 0, int .i64 0, int .i64 0, int .i64 0,
 int .i64 0, int .i64 0, int .i64 0, int .i64 0, int .i64 0, int .i64 0, int .i64 0] 0 x2) false, Ob.box 219 [int .i64 x5, int .i64 x6, int .i64 x7, int .i64 x8, int .i64 x9,
 int .i64 x10, int .i64 x11, int .i64 x12] false])
theorem E186 (y1 y2) {r : V} (h : T186 (orcE C) 0 y1 y2 = some r) : runE C 186 [sl y1 y2] = some r := ofR (j := 1) (F := fun s => T186 (orc C s.k) s.k y1 y2) (fun _ =>
 by kernel_rfl) (by
  unfold T186
  repeat' first | (with_reducible first | intro _ | exact cC | apply cN cR | apply cT | apply cI | apply cM | apply cL | apply cA | apply cN cC | exact cR) | exact cD0 gK) h
def T140l1 (O : Orc) (m : Nat) (y1 y2 : Int) : Option V := bif decide (i64.wrap (2 * y2) < y1) then O.L 0 140 0 [true, true, false] [] m [(0, int .i64 y1), (3,
 int .i64 (i64.wrap (2 * y2)))] [] else some (tup [int .i64 y2])
theorem E140l1 (y1 y2) {r : V} (h : T140l1 (orcE C) 0 y1 y2 = some r) : loopE C 140 0 [true, true, false] [] [(0, int .i64 y1), (3, int .i64 y2)] [] = some r := ofL (j := 0) (F
 := fun s => T140l1 (orc C s.k) s.m y1 y2) (fs0 fun _ _ => by kernel_rfl) (by
  unfold T140l1
  repeat' first | (with_reducible first | intro _ | exact cC | apply cF) | exact cD0 gM) h
def T145 (O : Orc) (k : Nat) (y1 : Nat) (y2 : List V) (y3 : Int) (y4 : Nat) (y5 : List V) : Option V := need (O.R 0 137 [sl y1 y2]) fun x1 => asTup (some x1) fun x2 => asOsl
 x2[0]? fun x3 x4 => need (O.R 0 187 [sl x3 (bareL x4), int .i64 y3]) fun x5 => asTup (some x5) fun x6 => PI.asInt .i64 x6[0]? fun x7 => PI.asInt .i64 x6[1]? fun x8 => asOsl x6[2]? fun x9 x10 =>
 need (O.R 0 188 [sl y4 y5]) fun x11 => asTup (some x11) fun x12 => asOsl x12[0]? fun x13 x14 => O.L 0 145 0 [true, true, true, false, true] [] k [(0, sl y1 y2), (1, int .i64 y3), (6, ptr 0 0),
 (7, ptr 3 0), (8, ref 6), (9, int .i64 0)] [Ob.box 167 [int .i64 0, ref 1, int .i64 0, int .i64 0, ref 2] false, Ob.nrow [] 22 0 [], Ob.nrow [] 22 0 [], Ob.box 167 [int .i64 y3,
 ref 4, int .i64 x7, int .i64 x8, ref 5] false, Ob.nrow [] 22 0 [], Ob.nrow [] 22 x9 x10, Ob.row 2 x13 x14 false]
theorem E145 (y1 y2 y3 y4 y5) {r : V} (h : T145 (orcE C) 0 y1 y2 y3 y4 y5 = some r) : runE C 145 [sl y1 y2, int .i64 y3, sl y4 y5] = some r :=
 ofR (j := 1) (F := fun s => T145 (orc C s.k) s.k y1 y2 y3 y4 y5) (fun _ => by kernel_rfl) (by
  unfold T145
  repeat' first | (with_reducible first | intro _ | exact cC | apply cN cR | apply cT | apply cI | apply cO | apply cN cC | exact cR) | exact cD0 gK) h
def T128 (O : Orc) (y1 : Nat) (y2 : List V) : Option V := need (O.R 0 104 [sl y1 y2, fn 181 []]) fun x1 => asTup (some x1) fun x2 => PI.asBool x2[0]? fun x3 => some
 (tup [bool !x3])
theorem E128 (y1 y2) {r : V} (h : T128 (orcE C) y1 y2 = some r) : runE C 128 [sl y1 y2] = some r := ofR (j := 1) (F := fun s => T128 (orc C s.k) y1 y2) (fun _ =>
 by kernel_rfl) (by
  unfold T128
  repeat' first | (with_reducible first | intro _ | exact cC | apply cN cR | apply cT | apply cB | apply cN cC | exact cR)) h
def T102l1 (O : Orc) (m : Nat) (y1 : Nat) (y2 : List V) (y3 : Nat) (y4 : List V) (y5 y6 : Int) : Option V := bif decide (y6 < y5) then must (inB y6 y3) (asSl y4[y6.toNat *
 2]? fun x1 x2 => PI.asInt .i64 y4[y6.toNat * 2 + 1]? fun x3 => need (O.R 0 106 [sl x1 x2]) fun x4 => asTup (some x4) fun x5 => PI.asBool x5[0]? fun x6 => bif !x6 then some (tup [int .i64 1])
 else need (O.R 0 51 [int .i64 x3, int .i64 1, int .i64 1000]) fun x7 => asTup (some x7) fun x8 => PI.asBool x8[0]? fun x9 => bif !x9 then some (tup [int .i64 3]) else must (decide (0 ≤ y6)
 && decide (y6 ≤ (↑y1 : Int))) (need (O.R 0 166 [sl (y6.toNat - 0) (List.take ((y6.toNat - 0) * 2) (List.drop 0 y2)), sl x1 x2]) fun x10 => asTup (some x10) fun x11 => PI.asInt .i64 x11[0]? fun x12
 => bif decide (x12 ≥ 0) then some (tup [int .i64 7]) else O.L 0 102 1 [true, true, false, true] [] m [(0, sl y1 y2), (13, sl y3 y4), (14, int .i64 y5), (15, int .i64 (i64.wrap (y6
 + 1)))] [])) else some (tup [int .i64 0])
theorem E102l1 (y1 y2 y3 y4 y5 y6) {r : V} (h : T102l1 (orcE C) 0 y1 y2 y3 y4 y5 y6 = some r) : loopE C 102 1 [true, true, false, true] [] [(0,
 sl y1 y2), (13, sl y3 y4), (14, int .i64 y5), (15, int .i64 y6)] [] = some r := ofL (j := 0) (F := fun s => T102l1 (orc C s.k) s.m y1 y2 y3 y4 y5 y6) (fs0 fun _ _ => by kernel_rfl) (by
  unfold T102l1
  repeat' first | (with_reducible first | intro _ | exact cC | apply cN cR | apply cT | apply cI | apply cM | apply cF | apply cB | apply cL | apply cN cC | exact cR) | exact cD0 gM) h
def T103l1 (O : Orc) (m : Nat) (y1 : Nat) (y2 : List V) (y3 y4 : Int) (y5 : Nat) (y6 : List V) : Option V := bif decide (y4 < y3) then must (inB y4 y1) (asSl y2[y4.toNat *
 2]? fun x1 x2 => PI.asInt .i64 y2[y4.toNat * 2 + 1]? fun x3 => need (O.R 0 133 [int .i64 x3]) fun x4 => asTup (some x4) fun x5 => asSl x5[0]? fun x6 x7 => must (true && (y5 + 2).ble 140737488355328
 && ((y5 + 2) * 24).ble 140737488355328) (O.L 0 103 0 [true, true, false, true] [] m [(3, ref 0), (7, sl y1 y2), (8, int .i64 y3), (9, int .i64 (i64.wrap (y4 + 1)))] [Ob.row 22 (y5 + 2)
 (y6 ++ [sl x1 x2, sl x6 x7]) false])) else need (O.R 0 131 [sl y5 y6]) fun x8 => asTup (some x8) fun x9 => asSl x9[0]? fun x10 x11 => need (O.R 0 147 [str { data := #[(115 : UInt8), (101 :
 UInt8), (116 : UInt8)] }, sl 1 [sl x10 x11]]) fun x12 => asTup (some x12) fun x13 => asOsl x13[0]? fun x14 x15 => some (tup [sl x14 x15])
theorem E103l1 (y1 y2 y3 y4 y5 y6) {r : V} (h : T103l1 (orcE C) 0 y1 y2 y3 y4 y5 y6 = some r) : loopE C 103 0 [true, true, false, true] [] [(3,
 ref 0), (7, sl y1 y2), (8, int .i64 y3), (9, int .i64 y4)] [Ob.row 22 y5 y6 false] = some r := ofL (j := 0) (F := fun s => T103l1 (orc C s.k) s.m y1 y2 y3 y4 y5 y6) (fs0 fun _ _ => by
 kernel_rfl) (by
  unfold T103l1
  repeat' first | (with_reducible first | intro _ | exact cC | apply cN cR | apply cT | apply cI | apply cM | apply cF | apply cL | apply cO | apply cN cC | exact cR) | exact cD0 gM) h
def T167 (O : Orc) (k : Nat) (y1 : Nat) (y2 : List V) : Option V := O.L 0 167 0 [true, false, true] [] k [(0, sl y1 y2), (1, fn 105 []), (7, int .i64 (↑y1 : Int)), (8, int
 .i64 0)] []
theorem E167 (y1 y2) {r : V} (h : T167 (orcE C) 0 y1 y2 = some r) : runE C 167 [sl y1 y2, fn 105 []] = some r := ofR (j := 1) (F := fun s => T167 (orc C s.k) s.k y1
 y2) (fun _ => by kernel_rfl) (by
  unfold T167
  repeat' first | with_reducible exact cC | exact cD0 gK) h
def T133 (O : Orc) (k : Nat) (y1 : Int) : Option V := O.L 0 133 0 [true, true, false, true] [] k [(0, int .i64 y1), (3, ref 0), (4, int .i64 6)] [Ob.row 5 7 [int .u8 0,
 int .u8 0, int .u8 0, int .u8 0, int .u8 0, int .u8 0, int .u8 0] false]
theorem E133 (y1) {r : V} (h : T133 (orcE C) 0 y1 = some r) : runE C 133 [int .i64 y1] = some r := ofR (j := 1) (F := fun s => T133 (orc C s.k) s.k y1) (fun _ => by kernel_rfl) (by
  unfold T133
  repeat' first | with_reducible exact cC | exact cD0 gK) h
def T131 (O : Orc) (y1 : Nat) (y2 : List V) : Option V := need (O.R 0 183 [sl y1 y2]) fun x1 => asTup (some x1) fun x2 => asSl x2[0]? fun x3 x4 => PI.asBool x2[1]? fun
 x5 => some (tup [sl x3 x4])
theorem E131 (y1 y2) {r : V} (h : T131 (orcE C) y1 y2 = some r) : runE C 131 [sl y1 y2] = some r := ofR (j := 1) (F := fun s => T131 (orc C s.k) y1 y2) (fun _ =>
 by kernel_rfl) (by
  unfold T131
  repeat' first | (with_reducible first | intro _ | exact cC | apply cN cR | apply cT | apply cB | apply cL | apply cN cC | exact cR)) h
def T147 (O : Orc) (y1 : ByteArray) (y2 : Nat) (y3 : List V) : Option V := must (y1.size.ble 140737488355328) (must (decide (y3.length = y2 * 1)) (must (true && (2 +
 y2).ble 140737488355328 && ((2 + y2) * 24).ble 140737488355328) (need (O.R 0 130 [sl (2 + y2) (sl 1 [int .u8 (u8.wrap (↑y1.size : Int))] :: sl y1.size (bytesV y1.data.toList) :: y3)])
 fun x1 => asTup (some x1) fun x2 => asOsl x2[0]? fun x3 x4 => must (false || x4.all flatV) (some (tup [osl x3 x4])))))
theorem E147 (y1 y2 y3) {r : V} (h : T147 (orcE C) y1 y2 y3 = some r) : runE C 147 [str y1, sl y2 y3] = some r := ofR (j := 1) (F := fun s => T147 (orc C s.k) y1 y2 y3) (fun _ => by kernel_rfl) (by
  unfold T147
  repeat' first | (with_reducible first | intro _ | exact cC | apply cN cR | apply cT | apply cM | apply cO | apply cN cC | exact cR)) h
def T148 (O : Orc) (k : Nat) (y1 : Nat) (y2 : List V) (y3 : Nat) (y4 : List V) (y5 y6 : Int) (y7 : Nat) (y8 : List V) (y9 : Nat) (y10 : List V) (y11 : Nat) (y12 : List V) (y13 : Nat) (y14 : List V) : Option V := O.L 0 148 0 [true, true, false, true] [] k [(0, sl y1 y2), (1, sl y3 y4), (7, int .i64 0), (12, sl y13 y14), (13, int .i64 (↑y13 : Int)), (14, int
 .i64 0)] []
theorem E148 (y1 y2 y3 y4 y5 y6 y7 y8 y9 y10 y11 y12 y13 y14) {r : V} (h
 : T148 (orcE C) 0 y1 y2 y3 y4 y5 y6 y7 y8 y9 y10 y11 y12 y13 y14 = some r) : runE C 148 [sl y1 y2, sl y3 y4, agg [int .i64 y5, int .i64 y6, sl y7 y8, sl y9 y10, sl y11 y12, sl
 y13 y14]] = some r := ofR (j := 1) (F := fun s => T148 (orc C s.k) s.k y1 y2 y3 y4 y5 y6 y7 y8 y9 y10 y11 y12 y13 y14) (fun _ => by kernel_rfl) (by
  unfold T148
  repeat' first | with_reducible exact cC | exact cD0 gK) h
def T150 (O : Orc) (y1 y2 : Int) (y3 : Nat) (y4 : List V) (y5 : Nat) (y6 : List V) (y7 : Nat) (y8 : List V) : Option V := both (both (need (O.R 0 110 [sl y3
 y4]) fun x1 => asTup (some x1) fun x2 => asOsl x2[0]? fun x3 x4 => both (both (need (O.R 0 110 [sl y5 y6]) fun x5 => asTup (some x5) fun x6 => asOsl x6[0]? fun x7 x8 => need (O.R 0 110 [sl y7 y8])
 fun x9 => asTup (some x9) fun x10 => asOsl x10[0]? fun x11 x12 => must (false || x4.all flatV) (must (false || x8.all flatV) (must (false || x12.all flatV) (some (tup [int .i64 y1, int .i64 y2,
 osl x3 x4, osl x7 x8, osl x11 x12]))))) (need (O.R 0 110 [sl y5 y6]) fun x13 => asTup (some x13) fun x14 => asOsl x14[0]? fun x15 x16 => need (O.R 0 110 [sl y7 y8]) fun x17 => asTup (some
 x17) fun x18 => asOsl x18[0]? fun x19 x20 => must (false || x4.all flatV) (must (false || x16.all flatV) (must (false || x20.all flatV) (some (tup [int .i64 y1, int .i64 y2, osl x3 x4, osl
 x15 x16, osl x19 x20])))))) (need (O.R 0 110 [sl y5 y6]) fun x21 => asTup (some x21) fun x22 => asOsl x22[0]? fun x23 x24 => need (O.R 0 110 [sl y7 y8]) fun x25 => asTup (some x25) fun x26 =>
 asOsl x26[0]? fun x27 x28 => must (false || x4.all flatV) (must (false || x24.all flatV) (must (false || x28.all flatV) (some (tup [int .i64 y1, int .i64 y2, osl x3 x4, osl x23 x24, osl
 x27 x28])))))) (both (both (need (O.R 0 110 [sl y3 y4]) fun x29 => asTup (some x29) fun x30 => asOsl x30[0]? fun x31 x32 => both (need (O.R 0 110 [sl y5 y6]) fun x33 => asTup (some x33) fun x34 =>
 asOsl x34[0]? fun x35 x36 => need (O.R 0 110 [sl y7 y8]) fun x37 => asTup (some x37) fun x38 => asOsl x38[0]? fun x39 x40 => must (false || x32.all flatV) (must (false || x36.all flatV) (must (false
 || x40.all flatV) (some (tup [int .i64 y1, int .i64 y2, osl x31 x32, osl x35 x36, osl x39 x40]))))) (need (O.R 0 110 [sl y5 y6]) fun x41 => asTup (some x41) fun x42 => asOsl x42[0]? fun
 x43 x44 => need (O.R 0 110 [sl y7 y8]) fun x45 => asTup (some x45) fun x46 => asOsl x46[0]? fun x47 x48 => must (false || x32.all flatV) (must (false || x44.all flatV) (must (false || x48.all flatV)
 (some (tup [int .i64 y1, int .i64 y2, osl x31 x32, osl x43 x44, osl x47 x48])))))) (need (O.R 0 110 [sl y3 y4]) fun x49 => asTup (some x49) fun x50 => asOsl x50[0]? fun x51 x52 => need
 (O.R 0 110 [sl y5 y6]) fun x53 => asTup (some x53) fun x54 => asOsl x54[0]? fun x55 x56 => need (O.R 0 110 [sl y7 y8]) fun x57 => asTup (some x57) fun x58 => asOsl x58[0]? fun x59 x60 => must
 (false || x52.all flatV) (must (false || x56.all flatV) (must (false || x60.all flatV) (some (tup [int .i64 y1, int .i64 y2, osl x51 x52, osl x55 x56, osl x59 x60])))))) (both (need (O.R 0
 110 [sl y3 y4]) fun x61 => asTup (some x61) fun x62 => asOsl x62[0]? fun x63 x64 => need (O.R 0 110 [sl y5 y6]) fun x65 => asTup (some x65) fun x66 => asOsl x66[0]? fun x67 x68 => need (O.R 0 110
 [sl y7 y8]) fun x69 => asTup (some x69) fun x70 => asOsl x70[0]? fun x71 x72 => must (false || x64.all flatV) (must (false || x68.all flatV) (must (false || x72.all flatV) (some (tup [int .i64
 y1, int .i64 y2, osl x63 x64, osl x67 x68, osl x71 x72]))))) (need (O.R 0 110 [sl y3 y4]) fun x73 => asTup (some x73) fun x74 => asOsl x74[0]? fun x75 x76 => need (O.R 0 110 [sl y5 y6])
 fun x77 => asTup (some x77) fun x78 => asOsl x78[0]? fun x79 x80 => need (O.R 0 110 [sl y7 y8]) fun x81 => asTup (some x81) fun x82 => asOsl x82[0]? fun x83 x84 => must (false || x76.all flatV)
 (must (false || x80.all flatV) (must (false || x84.all flatV) (some (tup [int .i64 y1, int .i64 y2, osl x75 x76, osl x79 x80, osl x83 x84])))))))) (both (both (both (need (O.R 0 110 [sl
 y3 y4]) fun x85 => asTup (some x85) fun x86 => asOsl x86[0]? fun x87 x88 => both (need (O.R 0 110 [sl y5 y6]) fun x89 => asTup (some x89) fun x90 => asOsl x90[0]? fun x91 x92 => need (O.R 0 110
 [sl y7 y8]) fun x93 => asTup (some x93) fun x94 => asOsl x94[0]? fun x95 x96 => must (false || x88.all flatV) (must (false || x92.all flatV) (must (false || x96.all flatV) (some (tup [int .i64
 y1, int .i64 y2, osl x87 x88, osl x91 x92, osl x95 x96]))))) (need (O.R 0 110 [sl y5 y6]) fun x97 => asTup (some x97) fun x98 => asOsl x98[0]? fun x99 x100 => need (O.R 0 110 [sl y7 y8])
 fun x101 => asTup (some x101) fun x102 => asOsl x102[0]? fun x103 x104 => must (false || x88.all flatV) (must (false || x100.all flatV) (must (false || x104.all flatV) (some (tup [int .i64 y1,
 int .i64 y2, osl x87 x88, osl x99 x100, osl x103 x104])))))) (need (O.R 0 110 [sl y3 y4]) fun x105 => asTup (some x105) fun x106 => asOsl x106[0]? fun x107 x108 => need (O.R 0 110 [sl y5
 y6]) fun x109 => asTup (some x109) fun x110 => asOsl x110[0]? fun x111 x112 => need (O.R 0 110 [sl y7 y8]) fun x113 => asTup (some x113) fun x114 => asOsl x114[0]? fun x115 x116 => must (false ||
 x108.all flatV) (must (false || x112.all flatV) (must (false || x116.all flatV) (some (tup [int .i64 y1, int .i64 y2, osl x107 x108, osl x111 x112, osl x115 x116])))))) (need (O.R 0 110
 [sl y3 y4]) fun x117 => asTup (some x117) fun x118 => asOsl x118[0]? fun x119 x120 => need (O.R 0 110 [sl y5 y6]) fun x121 => asTup (some x121) fun x122 => asOsl x122[0]? fun x123 x124 => need
 (O.R 0 110 [sl y7 y8]) fun x125 => asTup (some x125) fun x126 => asOsl x126[0]? fun x127 x128 => must (false || x120.all flatV) (must (false || x124.all flatV) (must (false || x128.all flatV) (some
 (tup [int .i64 y1, int .i64 y2, osl x119 x120, osl x123 x124, osl x127 x128])))))) (both (both (need (O.R 0 110 [sl y3 y4]) fun x129 => asTup (some x129) fun x130 => asOsl x130[0]? fun
 x131 x132 => need (O.R 0 110 [sl y5 y6]) fun x133 => asTup (some x133) fun x134 => asOsl x134[0]? fun x135 x136 => need (O.R 0 110 [sl y7 y8]) fun x137 => asTup (some x137) fun x138 => asOsl
 x138[0]? fun x139 x140 => must (false || x132.all flatV) (must (false || x136.all flatV) (must (false || x140.all flatV) (some (tup [int .i64 y1, int .i64 y2, osl x131 x132, osl x135 x136,
 osl x139 x140]))))) (need (O.R 0 110 [sl y3 y4]) fun x141 => asTup (some x141) fun x142 => asOsl x142[0]? fun x143 x144 => need (O.R 0 110 [sl y5 y6]) fun x145 => asTup (some x145) fun x146 =>
 asOsl x146[0]? fun x147 x148 => need (O.R 0 110 [sl y7 y8]) fun x149 => asTup (some x149) fun x150 => asOsl x150[0]? fun x151 x152 => must (false || x144.all flatV) (must (false || x148.all flatV)
 (must (false || x152.all flatV) (some (tup [int .i64 y1, int .i64 y2, osl x143 x144, osl x147 x148, osl x151 x152])))))) (need (O.R 0 110 [sl y3 y4]) fun x153 => asTup (some x153) fun
 x154 => asOsl x154[0]? fun x155 x156 => need (O.R 0 110 [sl y5 y6]) fun x157 => asTup (some x157) fun x158 => asOsl x158[0]? fun x159 x160 => need (O.R 0 110 [sl y7 y8]) fun x161 => asTup (some
 x161) fun x162 => asOsl x162[0]? fun x163 x164 => must (false || x156.all flatV) (must (false || x160.all flatV) (must (false || x164.all flatV) (some (tup [int .i64 y1, int .i64 y2, osl x155
 x156, osl x159 x160, osl x163 x164])))))))
theorem E150 (y1 y2 y3 y4 y5 y6 y7 y8) {r : V} (h : T150 (orcE C) y1 y2 y3 y4 y5 y6 y7 y8 = some r) : runE C 150 [agg
 [int .i64 y1, int .i64 y2, sl y3 y4, sl y5 y6, sl y7 y8]] = some r := ofR (j := 1) (F := fun s => T150 (orc C s.k) y1 y2 y3 y4 y5 y6 y7 y8) (fun _ => by kernel_rfl) (by
  unfold T150
  repeat' first | (with_reducible first | intro _ | exact cC | apply cN cR | apply cT | apply cM | apply cO | apply cN cC | apply cW | exact cR)) h
def T151 (O : Orc) (k : Nat) (y1 : Nat) (y2 : List V) : Option V := O.L 0 151 0 [true, true, false, true] [] k [(3, ref 0), (7, sl y1 y2), (8, int .i64 (↑y1 : Int)), (9,
 int .i64 0)] [Ob.nrow [] 161 0 []]
theorem E151 (y1 y2) {r : V} (h : T151 (orcE C) 0 y1 y2 = some r) : runE C 151 [sl y1 y2] = some r := ofR (j := 1) (F := fun s => T151 (orc C s.k) s.k y1 y2) (fun _ =>
 by kernel_rfl) (by
  unfold T151
  repeat' first | with_reducible exact cC | exact cD0 gK) h
def T152 (O : Orc) (k : Nat) (y1 : Nat) (y2 : List V) : Option V := O.L 0 152 0 [true, true, false, true] [] k [(3, ref 0), (7, sl y1 y2), (8, int .i64 (↑y1 : Int)), (9,
 int .i64 0)] [Ob.nrow [] 22 0 []]
theorem E152 (y1 y2) {r : V} (h : T152 (orcE C) 0 y1 y2 = some r) : runE C 152 [sl y1 y2] = some r := ofR (j := 1) (F := fun s => T152 (orc C s.k) s.k y1 y2) (fun _ =>
 by kernel_rfl) (by
  unfold T152
  repeat' first | with_reducible exact cC | exact cD0 gK) h
def T97l1 (O : Orc) (k m : Nat) (y1 : Nat) (y2 : List V) (y3 : Int) : Option V := bif decide (y3 < (↑y1 : Int)) then must (inB y3 y1) (must (decide (y3.toNat * 2 + 0 < y2.length))
 (asSl y2[y3.toNat * 2 + 0]? fun x1 x2 => bif (↑x1 : Int) != 32 then some (tup [int .i64 1]) else must (inB y3 y1) (PI.asInt .i64 y2[y3.toNat * 2 + 1]? fun x3 => need (O.R 0 98 [int .i64 x3,
 int .i64 1, int .i64 1000]) fun x4 => asTup (some x4) fun x5 => PI.asBool x5[0]? fun x6 => bif !x6 then some (tup [int .i64 3]) else O.L 0 97 2 [true, true, true, false, true, false, true,
 false, false, true, true, true] [m] k [(0, sl y1 y2), (3, int .i64 y3), (4, int .i64 0)] []))) else some (tup [int .i64 0])
theorem E97l1 (y1 y2 y3) {r : V} (h : T97l1 (orcE C) 0 0 y1 y2 y3 = some r) : loopE C 97 0 [true, true, true, false, true] [] [(0, sl y1 y2), (3, int .i64 y3)] [] =
 some r := ofL (j := 0) (F := fun s => T97l1 (orc C s.k) s.k s.m y1 y2 y3) (fs0 fun _ _ => by kernel_rfl) (by
  unfold T97l1
  repeat' first | (with_reducible first | intro _ | exact cC | apply cN cR | apply cT | apply cI | apply cM | apply cF | apply cB | apply cL | apply cN cC | exact cR) | exact cD1 gK gM) h
def T153 (O : Orc) (k : Nat) (y1 : Nat) (y2 : List V) (y3 : Nat) (y4 : List V) (y5 : Int) (y6 : Nat) (y7 : List V) (y8 y9 : Int) (y10 : Nat) (y11 : List V) : Option V :=
 need (O.R 0 194 [agg [int .i64 y5, sl y6 y7, int .i64 y8, int .i64 y9, sl y10 y11]]) fun x1 => asTup (some x1) fun x2 => PI.asBool x2[0]? fun x3 => bif !x3 then some (tup [bool false])
 else need (O.R 0 188 [sl y3 y4]) fun x4 => asTup (some x4) fun x5 => asOsl x5[0]? fun x6 x7 => O.L 0 153 0 [true, true, true, true, false, true] [] k [(0, sl y1 y2), (5, ptr 0 0), (7, ref 1),
 (8, ref 2), (9, int .i64 0)] [Ob.box 167 [int .i64 y5, sl y6 y7, int .i64 y8, int .i64 y9, sl y10 y11] false, Ob.row 2 x6 x7 false, Ob.row 5 0 [] false]
theorem E153 (y1 y2 y3 y4 y5 y6 y7 y8 y9 y10 y11) {r : V} (h : T153 (orcE C) 0 y1 y2 y3 y4 y5 y6
 y7 y8 y9 y10 y11 = some r) : runE C 153 [sl y1 y2, sl y3 y4, agg [int .i64 y5, sl y6 y7, int .i64 y8, int .i64 y9, sl y10 y11]] = some r := ofR (j := 1) (F := fun s => T153 (orc C s.k) s.k y1 y2 y3 y4 y5 y6 y7 y8 y9 y10 y11) (fun _ => by kernel_rfl) (by
  unfold T153
  repeat' first | (with_reducible first | intro _ | exact cC | apply cN cR | apply cT | apply cF | apply cB | apply cO | apply cN cC | exact cR) | exact cD0 gK) h
def T142l1 (O : Orc) (m : Nat) (y1 y2 : Int) (y3 : Nat) (y4 : List V) : Option V := bif decide (y2 ≥ 0) then must (decide (0 ≤ u64.wrap (i64.wrap (8 *
 y2)))) (must (true && (y3 + 1).ble 140737488355328 && ((y3 + 1) * 1).ble 140737488355328) (O.L 0 142 0 [true, true, false, true] [] m [(0, int .i64 y1), (3, ref 0), (4, int .i64
 (i64.wrap (y2 - 1)))] [Ob.row 5 (y3 + 1) (y4 ++ [int .u8 (u8.wrap (y1.fdiv (2 ^ min (u64.wrap (i64.wrap (8 * y2))).toNat 64)))]) false])) else some (tup [sl y3
 y4])
theorem E142l1 (y1 y2 y3 y4) {r : V} (h : T142l1 (orcE C) 0 y1 y2 y3 y4 = some r) : loopE C 142 0 [true, true, false, true] [] [(0, int .i64 y1), (3, ref 0),
 (4, int .i64 y2)] [Ob.row 5 y3 y4 false] = some r := ofL (j := 0) (F := fun s => T142l1 (orc C s.k) s.m y1 y2 y3 y4) (fs0 fun _ _ => by kernel_rfl) (by
  unfold T142l1
  repeat' first | (with_reducible first | intro _ | exact cC | apply cM | apply cF) | exact cD0 gM) h
def T143l1 (O : Orc) (m : Nat) (y1 : Nat) (y2 : List V) (y3 : Int) (y4 : Nat) (y5 : List V) : Option V := bif decide (y3 < (↑y1 : Int)) then must (inB y3 y1) (must (decide
 (y3.toNat * 1 < y2.length)) (asSl y2[y3.toNat * 1]? fun x1 x2 => must (inB y3 y1) (must (decide (y3.toNat * 1 < y2.length)) (must (true && (y4 + 1).ble 140737488355328 && ((y4 + 1) * 1).ble
 140737488355328) (asSl y2[y3.toNat * 1]? fun x3 x4 => must (decide (x4.length = x3 * 1)) (must (true && (y4 + 1 + x3).ble 140737488355328 && ((y4 + 1 + x3) * 1).ble 140737488355328) (O.L 0 143 0
 [true, true, false, true] [] m [(0, sl y1 y2), (3, ref 0), (4, int .i64 (i64.wrap (y3 + 1)))] [Ob.row 5 (y4 + 1 + x3) (y5 ++ [int .u8 (u8.wrap (↑x1 : Int))] ++ x4)
 false]))))))) else must (false || y5.all flatV) (some (tup [osl y4 y5]))
theorem E143l1 (y1 y2 y3 y4 y5) {r : V} (h : T143l1 (orcE C) 0 y1 y2 y3 y4 y5 = some r) : loopE C 143 0 [true, true, false, true] [] [(0, sl y1 y2),
 (3, ref 0), (4, int .i64 y3)] [Ob.row 5 y4 y5 false] = some r := ofL (j := 0) (F := fun s => T143l1 (orc C s.k) s.m y1 y2 y3 y4 y5) (fs0 fun _ _ => by kernel_rfl) (by
  unfold T143l1
  repeat' first | (with_reducible first | intro _ | exact cC | apply cM | apply cF | apply cL) | exact cD0 gM) h
def T154l1 (O : Orc) (m : Nat) (y1 : Nat) (y2 : List V) (y3 : Nat) (y4 : List V) (y5 : Int) : Option V := bif decide (y5 < (↑y1 : Int)) then bif decide (y5 < (↑y3 : Int)) then
 must (inB y5 y1) (PI.asInt .u8 y2[y5.toNat * 1]? fun x1 => must (inB y5 y3) (PI.asInt .u8 y4[y5.toNat * 1]? fun x2 => bif decide (x1 < x2) then some (tup [int .i64 (-1)]) else must (inB y5 y1)
 (PI.asInt .u8 y2[y5.toNat * 1]? fun x3 => must (inB y5 y3) (PI.asInt .u8 y4[y5.toNat * 1]? fun x4 => bif decide (x3 > x4) then some (tup [int .i64 1]) else O.L 0 154 0 [true, false, true] [] m
 [(0, sl y1 y2), (1, sl y3 y4), (5, int .i64 (i64.wrap (y5 + 1)))] [])))) else bif decide ((↑y1 : Int) < (↑y3 : Int)) then some (tup [int .i64 (-1)]) else bif decide ((↑y1 : Int) >
 (↑y3 : Int)) then some (tup [int .i64 1]) else some (tup [int .i64 0]) else bif decide ((↑y1 : Int) < (↑y3 : Int)) then some (tup [int .i64 (-1)]) else bif decide ((↑y1 : Int) > (↑y3 :
 Int)) then some (tup [int .i64 1]) else some (tup [int .i64 0])
theorem E154l1 (y1 y2 y3 y4 y5) {r : V} (h : T154l1 (orcE C) 0 y1 y2 y3 y4 y5 = some r) : loopE C 154 0 [true, false, true] [] [(0, sl y1 y2), (1,
 sl y3 y4), (5, int .i64 y5)] [] = some r := ofL (j := 0) (F := fun s => T154l1 (orc C s.k) s.m y1 y2 y3 y4 y5) (fs0 fun _ _ => by kernel_rfl) (by
  unfold T154l1
  repeat' first | (with_reducible first | intro _ | exact cC | apply cI | apply cM | apply cF) | exact cD0 gM) h
def T155l1 (O : Orc) (m : Nat) (y1 : Nat) (y2 : List V) (y3 y4 y5 y6 : Int) (y7 : Nat) (y8 : List V) (y9 : Nat) (y10 : List V) (y11 : Nat) (y12 : List V) (y13 : Nat) (y14 : List V) : Option V := bif decide (y4 < (↑y13 : Int)) then must (inB y4 y13) (PI.asInt .i64 y14[y4.toNat * 6 + 0]? fun x1 => must (inB x1 y1) (PI.asInt .i64 y2[x1.toNat * 2 + 1]? fun
 x2 => O.L 0 155 0 [true, true, false, true] [] m [(0, sl y1 y2), (3, ptr 0 0), (5, int .i64 (i64.wrap (y3 + x2))), (6, int .i64 (i64.wrap (y4 + 1)))] [Ob.box 55 [int .i64 y5,
 int .i64 y6, sl y7 y8, sl y9 y10, sl y11 y12, sl y13 y14] false])) else some (tup [int .i64 y3])
theorem E155l1 (y1 y2 y3 y4 y5 y6 y7 y8 y9 y10 y11 y12 y13 y14) {r : V} (h :
 T155l1 (orcE C) 0 y1 y2 y3 y4 y5 y6 y7 y8 y9 y10 y11 y12 y13 y14 = some r) : loopE C 155 0 [true, true, false, true] [] [(0, sl y1 y2), (3, ptr 0 0), (5, int .i64 y3), (6, int .i64 y4)]
 [Ob.box 55 [int .i64 y5, int .i64 y6, sl y7 y8, sl y9 y10, sl y11 y12, sl y13 y14] false] = some r := ofL (j := 0) (F := fun s => T155l1 (orc C s.k) s.m y1 y2 y3 y4 y5 y6 y7 y8 y9
 y10 y11 y12 y13 y14) (fs0 fun _ _ => by kernel_rfl) (by
  unfold T155l1
  repeat' first | (with_reducible first | intro _ | exact cC | apply cI | apply cM | apply cF) | exact cD0 gM) h
def T156l1 (O : Orc) (m : Nat) (y1 : Nat) (y2 : List V) (y3 y4 : Int) : Option V := bif decide (y4 < (↑y1 : Int)) then must (inB y4 y1) (PI.asInt .i64 y2[y4.toNat * 2 +
 1]? fun x1 => O.L 0 156 0 [true, true, false, true] [] m [(0, sl y1 y2), (3, int .i64 (i64.wrap (y3 + x1))), (4, int .i64 (i64.wrap (y4 + 1)))] []) else some (tup [int .i64
 y3])
theorem E156l1 (y1 y2 y3 y4) {r : V} (h : T156l1 (orcE C) 0 y1 y2 y3 y4 = some r) : loopE C 156 0 [true, true, false, true] [] [(0, sl y1 y2), (3, int .i64
 y3), (4, int .i64 y4)] [] = some r := ofL (j := 0) (F := fun s => T156l1 (orc C s.k) s.m y1 y2 y3 y4) (fs0 fun _ _ => by kernel_rfl) (by
  unfold T156l1
  repeat' first | (with_reducible first | intro _ | exact cC | apply cI | apply cM | apply cF) | exact cD0 gM) h
def T157l1 (O : Orc) (k m : Nat) (y1 : Nat) (y2 : List V) (y3 : Nat) (y4 : List V) (y5 y6 y7 y8 : Int) (y9 : Nat) (y10 : List V) (y11 : Nat) (y12 : List V) (y13 : Nat) (y14 : List V) (y15 : Nat) (y16 : List V) : Option V := bif decide (y6 < (↑y15 : Int)) then must (inB y6 y15) (PI.asInt .i64 y16[y6.toNat * 6 + 0]? fun x1 => must (inB x1 y1) (must (decide
 (x1.toNat * 2 + 0 < y2.length)) (O.L 0 157 2 [true, true, false, true, false, true, false, false, true, true] [m] k [(0, sl y1 y2), (1, sl y3 y4), (5, ptr 0 0), (7, int .i64 y5), (8, int
 .i64 y6), (9, V.prj y2 (x1.toNat * 2 + 0)), (10, int .i64 0)] [Ob.box 55 [int .i64 y7, int .i64 y8, sl y9 y10, sl y11 y12, sl y13 y14, sl y15 y16] false]))) else some (tup [int .i64
 y5])
theorem E157l1 (y1 y2 y3 y4 y5 y6 y7 y8 y9 y10 y11 y12 y13 y14 y15 y16) {r : V} (h : T157l1 (orcE C) 0 0 y1 y2 y3 y4 y5 y6 y7 y8 y9 y10 y11 y12 y13 y14 y15 y16 = some r) : loopE C 157 0 [true, true, false, true] [] [(0, sl y1 y2), (1, sl y3 y4), (5,
 ptr 0 0), (7, int .i64 y5), (8, int .i64 y6)] [Ob.box 55 [int .i64 y7, int .i64 y8, sl y9 y10, sl y11 y12, sl y13 y14, sl y15 y16] false] = some r := ofL (j := 0) (F := fun s =>
 T157l1 (orc C s.k) s.k s.m y1 y2 y3 y4 y5 y6 y7 y8 y9 y10 y11 y12 y13 y14 y15 y16) (fs0 fun _ _ => by kernel_rfl) (by
  unfold T157l1
  repeat' first | (with_reducible first | intro _ | exact cC | apply cI | apply cM | apply cF) | exact cD1 gK gM) h
def T158l1 (O : Orc) (m : Nat) (y1 : Nat) (y2 : List V) (y3 : Int) (y4 : Nat) (y5 : List V) : Option V := bif decide (y3 < (↑y1 : Int)) then must (inB y3 y1) (must (decide
 (y3.toNat * 2 + 0 < y2.length)) (must (inB y3 y1) (PI.asInt .i64 y2[y3.toNat * 2 + 1]? fun x1 => asSl y2[y3.toNat * 2 + 0]? fun x2 x3 => must (decide (x3.length = x2 * 1)) (must (true && (0 + x2).ble
 140737488355328 && ((0 + x2) * 1).ble 140737488355328) (must (true && (y4 + 1).ble 140737488355328 && ((y4 + 1) * 32).ble 140737488355328) (O.L 0 158 0 [true, true, false, true] [] m [(0, sl y1 y2),
 (3, ref 0), (4, int .i64 (i64.wrap (y3 + 1)))] [Ob.row 161 (y4 + 1) (y5 ++ [sl (0 + x2) x3, int .i64 x1]) false])))))) else some (tup [osl y4 y5])
theorem E158l1 (y1 y2 y3 y4 y5) {r : V} (h : T158l1 (orcE C) 0 y1 y2 y3 y4 y5 = some r) : loopE C 158 0 [true, true, false, true] [] [(0, sl y1 y2),
 (3, ref 0), (4, int .i64 y3)] [Ob.row 161 y4 y5 false] = some r := ofL (j := 0) (F := fun s => T158l1 (orc C s.k) s.m y1 y2 y3 y4 y5) (fs0 fun _ _ => by kernel_rfl) (by
  unfold T158l1
  repeat' first | (with_reducible first | intro _ | exact cC | apply cI | apply cM | apply cF | apply cL) | exact cD0 gM) h
def T159l1 (O : Orc) (m : Nat) (y1 : Nat) (y2 : List V) (y3 : Int) (y4 : Nat) (y5 : List V) : Option V := bif decide (y3 < (↑y1 : Int)) then must (inB y3 y1) (must (decide
 (y3.toNat * 1 < y2.length)) (asSl y2[y3.toNat * 1]? fun x1 x2 => must (decide (x2.length = x1 * 1)) (must (true && (0 + x1).ble 140737488355328 && ((0 + x1) * 1).ble 140737488355328) (must (true &&
 (y4 + 1).ble 140737488355328 && ((y4 + 1) * 24).ble 140737488355328) (O.L 0 159 0 [true, true, false, true] [] m [(0, sl y1 y2), (3, ref 0), (4, int .i64 (i64.wrap (y3 + 1)))] [Ob.row 22
 (y4 + 1) (y5 ++ [sl (0 + x1) x2]) false]))))) else some (tup [osl y4 y5])
theorem E159l1 (y1 y2 y3 y4 y5) {r : V} (h : T159l1 (orcE C) 0 y1 y2 y3 y4 y5 = some r) : loopE C 159 0 [true, true, false, true] [] [(0, sl y1 y2),
 (3, ref 0), (4, int .i64 y3)] [Ob.row 22 y4 y5 false] = some r := ofL (j := 0) (F := fun s => T159l1 (orc C s.k) s.m y1 y2 y3 y4 y5) (fs0 fun _ _ => by kernel_rfl) (by
  unfold T159l1
  repeat' first | (with_reducible first | intro _ | exact cC | apply cM | apply cF | apply cL) | exact cD0 gM) h
def T146 (O : Orc) (k : Nat) (y1 : Nat) (y2 : List V) (y3 : Nat) (y4 : List V) (y5 : Int) (y6 : Nat) (y7 : List V) (y8 y9 : Int) (y10 : Nat) (y11 : List V) : Option V :=
 need (O.R 0 191 [agg [int .i64 y5, sl y6 y7, int .i64 y8, int .i64 y9, sl y10 y11]]) fun x1 => asTup (some x1) fun x2 => PI.asBool x2[0]? fun x3 => bif !x3 then some (tup [bool false])
 else need (O.R 0 128 [sl y6 y7]) fun x4 => asTup (some x4) fun x5 => PI.asBool x5[0]? fun x6 => bif !x6 then some (tup [bool false]) else need (O.R 0 192 [sl y3 y4]) fun x7 => asTup (some x7)
 fun x8 => asOsl x8[0]? fun x9 x10 => O.L 0 146 0 [true, true, true, false, true] [] k [(0, sl y1 y2), (5, ptr 0 0), (7, ref 1), (21, ref 2), (22, int .i64 (↑x9 : Int)), (23, int .i64 0)]
 [Ob.box 167 [int .i64 y5, sl y6 y7, int .i64 y8, int .i64 y9, sl y10 y11] false, Ob.row 5 0 [] false, Ob.row 2 x9 x10 false]
theorem E146 (y1 y2 y3 y4 y5 y6 y7 y8 y9 y10 y11) {r : V} (h : T146 (orcE C) 0 y1 y2 y3 y4 y5 y6
 y7 y8 y9 y10 y11 = some r) : runE C 146 [sl y1 y2, sl y3 y4, agg [int .i64 y5, sl y6 y7, int .i64 y8, int .i64 y9, sl y10 y11]] = some r := ofR (j := 1) (F := fun s => T146 (orc C s.k) s.k y1 y2 y3 y4 y5 y6 y7 y8 y9 y10 y11) (fun _ => by kernel_rfl) (by
  unfold T146
  repeat' first | (with_reducible first | intro _ | exact cC | apply cN cR | apply cT | apply cF | apply cB | apply cO | apply cN cC | exact cR) | exact cD0 gK) h
def T160l1 (O : Orc) (m : Nat) (y1 : Nat) (y2 : List V) (y3 : Int) (y4 : Nat) (y5 : List V) (y6 y7 : Int) : Option V := bif decide (y7 < y6) then must (inB y7 y4)
 (PI.asInt .i64 y5[y7.toNat * 6]? fun x1 => PI.asInt .i64 y5[y7.toNat * 6 + 1]? fun x2 => asSl y5[y7.toNat * 6 + 1 + 1]? fun x3 x4 => PI.asInt .i64 y5[y7.toNat * 6 + 1 + 1 + 1]? fun x5 => PI.asInt .i64
 y5[y7.toNat * 6 + 1 + 1 + 1 + 1]? fun x6 => asSl y5[y7.toNat * 6 + 1 + 1 + 1 + 1 + 1]? fun x7 x8 => must (inB x1 y1) (PI.asInt .i64 y2[x1.toNat * 2 + 1]? fun x9 => O.L 0 160 0 [true, true, false,
 true] [] m [(0, sl y1 y2), (5, int .i64 (i64.wrap (y3 + x9))), (9, sl y4 y5), (10, int .i64 y6), (11, int .i64 (i64.wrap (y7 + 1)))] [])) else some (tup [int .i64 y3])
theorem E160l1 (y1 y2 y3 y4 y5 y6 y7) {r : V} (h : T160l1 (orcE C) 0 y1 y2 y3 y4 y5 y6 y7 = some r) : loopE C 160 0 [true, true, false,
 true] [] [(0, sl y1 y2), (5, int .i64 y3), (9, sl y4 y5), (10, int .i64 y6), (11, int .i64 y7)] [] = some r := ofL (j := 0) (F := fun s => T160l1 (orc C s.k) s.m y1 y2 y3 y4 y5 y6
 y7) (fs0 fun _ _ => by kernel_rfl) (by
  unfold T160l1
  repeat' first | (with_reducible first | intro _ | exact cC | apply cI | apply cM | apply cF | apply cL) | exact cD0 gM) h
def T149l1 (O : Orc) (m : Nat) (y1 : Int) (y2 : Nat) (y3 : List V) (y4 y5 : Int) : Option V := bif decide (y5 < y4) then must (inB y5 y2) (asSl y3[y5.toNat * 2]? fun x1 x2
 => PI.asInt .i64 y3[y5.toNat * 2 + 1]? fun x3 => O.L 0 149 0 [true, true, false, true] [] m [(3, int .i64 (i64.wrap (y1 + x3))), (6, sl y2 y3), (7, int .i64 y4), (8, int .i64
 (i64.wrap (y5 + 1)))] []) else some (tup [int .i64 y1])
theorem E149l1 (y1 y2 y3 y4 y5) {r : V} (h : T149l1 (orcE C) 0 y1 y2 y3 y4 y5 = some r) : loopE C 149 0 [true, true, false, true] [] [(3, int .i64 y1),
 (6, sl y2 y3), (7, int .i64 y4), (8, int .i64 y5)] [] = some r := ofL (j := 0) (F := fun s => T149l1 (orc C s.k) s.m y1 y2 y3 y4 y5) (fs0 fun _ _ => by kernel_rfl) (by
  unfold T149l1
  repeat' first | (with_reducible first | intro _ | exact cC | apply cI | apply cM | apply cF | apply cL) | exact cD0 gM) h
def T196 (O : Orc) (y1 y2 : Int) (y3 : Nat) (y4 : List V) : Option V := need (O.R 0 223 [int .i64 y2, int .i64 y1]) fun x1 => asTup (some x1) fun x2 =>
 PI.asInt .i64 x2[0]? fun x3 => PI.asInt .i64 x2[1]? fun x4 => bif x3 == 0 then bif x4 == (↑y3 : Int) then need (O.R 0 128 [sl y3 y4]) fun x5 => asTup (some x5) fun x6 => PI.asBool x6[0]? fun x7 =>
 some (tup [bool x7]) else some (tup [bool false]) else some (tup [bool false])
theorem E196 (y1 y2 y3 y4) {r : V} (h : T196 (orcE C) y1 y2 y3 y4 = some r) : runE C 196 [agg [int .i64 y1, int .i64 y2, sl y3 y4]] = some r := ofR (j
 := 1) (F := fun s => T196 (orc C s.k) y1 y2 y3 y4) (fun _ => by kernel_rfl) (by
  unfold T196
  repeat' first | (with_reducible first | intro _ | exact cC | apply cN cR | apply cT | apply cI | apply cF | apply cB | apply cN cC | exact cR)) h
def T197 (O : Orc) (y1 : Nat) (y2 : List V) : Option V := need (O.R 0 147 [str { data := #[(108 : UInt8), (101 : UInt8), (97 : UInt8), (102 : UInt8)] }, sl 1 [sl
 y1 y2]]) fun x1 => asTup (some x1) fun x2 => asOsl x2[0]? fun x3 x4 => must (false || x4.all flatV) (some (tup [osl x3 x4]))
theorem E197 (y1 y2) {r : V} (h : T197 (orcE C) y1 y2 = some r) : runE C 197 [sl y1 y2] = some r := ofR (j := 1) (F := fun s => T197 (orc C s.k) y1 y2) (fun _ =>
 by kernel_rfl) (by
  unfold T197
  repeat' first | (with_reducible first | intro _ | exact cC | apply cN cR | apply cT | apply cM | apply cO | apply cN cC | exact cR)) h
def T198 (O : Orc) (y1 y2 : Int) : Option V := bif y1 == 1 then some (tup [osl 0 []]) else need (O.R 0 224 [int .i64 y1]) fun x1 => asTup (some x1) fun x2
 => PI.asInt .i64 x2[0]? fun x3 => bif decide (y2 < x3) then need (O.R 0 198 [int .i64 x3, int .i64 y2]) fun x4 => asTup (some x4) fun x5 => asOsl x5[0]? fun x6 x7 => must (true && (x6 + 1).ble
 140737488355328 && ((x6 + 1) * 1).ble 140737488355328) (must (false || (x7 ++ [bool false]).all flatV) (some (tup [osl (x6 + 1) (x7 ++ [bool false])]))) else need (O.R 0 198 [int .i64
 (i64.wrap (y1 - x3)), int .i64 (i64.wrap (y2 - x3))]) fun x8 => asTup (some x8) fun x9 => asOsl x9[0]? fun x10 x11 => must (true && (x10 + 1).ble 140737488355328 && ((x10 + 1) *
 1).ble 140737488355328) (must (false || (x11 ++ [bool true]).all flatV) (some (tup [osl (x10 + 1) (x11 ++ [bool true])])))
theorem E198 (y1 y2) {r : V} (h : T198 (orcE C) y1 y2 = some r) : runE C 198 [int .i64 y1, int .i64 y2] = some r := ofR (j := 1) (F := fun s => T198 (orc C s.k) y1
 y2) (fun _ => by kernel_rfl) (by
  unfold T198
  repeat' first | (with_reducible first | intro _ | exact cC | apply cN cR | apply cT | apply cI | apply cM | apply cF | apply cO | apply cN cC | exact cR)) h
def T162l1 (O : Orc) (m : Nat) (y1 : Nat) (y2 : List V) (y3 y4 y5 y6 : Int) (y7 : Nat) (y8 : List V) (y9 : Nat) (y10 : List V) (y11 : Nat) (y12 : List V) :
 Option V := bif decide (y4 < y3) then must (inB y4 y11) (PI.asBool y12[y4.toNat * 1]? fun x1 => bif x1 then must (inB y4 y7) (must (decide (y4.toNat * 1 < y8.length)) (asSl y8[y4.toNat * 1]? fun x2 x3
 => need (O.R 0 199 [sl x2 x3, sl y9 y10]) fun x4 => asTup (some x4) fun x5 => asOsl x5[0]? fun x6 x7 => O.L 0 162 0 [true, true, true, false, true] [] m [(0, sl y1 y2), (5, ptr 0 0), (7, ref
 1), (19, ref 2), (20, int .i64 y3), (21, int .i64 (i64.wrap (y4 + 1)))] [Ob.box 66 [int .i64 y5, int .i64 y6, sl y7 y8] false, Ob.row 5 x6 x7 false, Ob.row 4 y11 y12 false])) else
 must (inB y4 y7) (must (decide (y4.toNat * 1 < y8.length)) (asSl y8[y4.toNat * 1]? fun x8 x9 => need (O.R 0 199 [sl y9 y10, sl x8 x9]) fun x10 => asTup (some x10) fun x11 => asOsl x11[0]? fun x12
 x13 => O.L 0 162 0 [true, true, true, false, true] [] m [(0, sl y1 y2), (5, ptr 0 0), (7, ref 1), (19, ref 2), (20, int .i64 y3), (21, int .i64 (i64.wrap (y4 + 1)))] [Ob.box 66
 [int .i64 y5, int .i64 y6, sl y7 y8] false, Ob.row 5 x12 x13 false, Ob.row 4 y11 y12 false]))) else need (O.R 0 76 [sl y9 y10, sl y1 y2]) fun x14 => asTup (some x14) fun x15 => PI.asBool
 x15[0]? fun x16 => some (tup [bool x16])
theorem E162l1 (y1 y2 y3 y4 y5 y6 y7 y8 y9 y10 y11 y12) {r : V} (h : T162l1 (orcE C) 0 y1
 y2 y3 y4 y5 y6 y7 y8 y9 y10 y11 y12 = some r) : loopE C 162 0 [true, true, true, false, true] [] [(0, sl y1 y2), (5, ptr 0 0), (7, ref 1), (19, ref 2), (20, int .i64 y3), (21, int .i64
 y4)] [Ob.box 66 [int .i64 y5, int .i64 y6, sl y7 y8] false, Ob.row 5 y9 y10 false, Ob.row 4 y11 y12 false] = some r := ofL (j := 0) (F := fun s => T162l1 (orc C s.k) s.m y1 y2 y3 y4 y5
 y6 y7 y8 y9 y10 y11 y12) (fs0 fun _ _ => by kernel_rfl) (by
  unfold T162l1
  repeat' first | (with_reducible first | intro _ | exact cC | apply cN cR | apply cT | apply cM | apply cF | apply cB | apply cL | apply cO | apply cN cC | exact cR) | exact cD0 gM) h
def T137l1 (O : Orc) (m : Nat) (y1 : Nat) (y2 : List V) (y3 : Int) (y4 : Nat) (y5 : List V) : Option V := bif decide (y3 < 4) then need (O.R 0 185 [sl y1 y2, int .i64 y3]) fun
 x1 => asTup (some x1) fun x2 => asOsl x2[0]? fun x3 x4 => must (x4.all flatV) (must (true && (y4 + 1).ble 140737488355328 && ((y4 + 1) * 24).ble 140737488355328) (O.L 0 137 0 [true, true, false, true]
 [] m [(0, sl y1 y2), (3, ref 0), (4, int .i64 (i64.wrap (y3 + 1)))] [Ob.nrow [] 22 (y4 + 1) (y5 ++ [own false 5 1 x3 x4])])) else some (tup [osl y4 y5])
theorem E137l1 (y1 y2 y3 y4 y5) {r : V} (h : T137l1 (orcE C) 0 y1 y2 y3 y4 y5 = some r) : loopE C 137 0 [true, true, false, true] [] [(0, sl y1 y2),
 (3, ref 0), (4, int .i64 y3)] [Ob.nrow [] 22 y4 y5] = some r := ofL (j := 0) (F := fun s => T137l1 (orc C s.k) s.m y1 y2 y3 y4 y5) (fs0 fun _ _ => by kernel_rfl) (by
  unfold T137l1
  repeat' first | (with_reducible first | intro _ | exact cC | apply cN cR | apply cT | apply cM | apply cF | apply cO | apply cN cC | exact cR) | exact cD0 gM) h
def T212 (O : Orc)  : Option V := some (agg [int .i64 1116352408, int .i64 1899447441, int .i64 3049323471, int .i64 3921009573, int .i64 961987163, int
 .i64 1508970993, int .i64 2453635748, int .i64 2870763221, int .i64 3624381080, int .i64 310598401, int .i64 607225278, int .i64 1426881987, int .i64 1925078388, int .i64 2162078206,
 int .i64 2614888103, int .i64 3248222580, int .i64 3835390401, int .i64 4022224774, int .i64 264347078, int .i64 604807628, int .i64 770255983, int .i64 1249150122, int .i64
 1555081692, int .i64 1996064986, int .i64 2554220882, int .i64 2821834349, int .i64 2952996808, int .i64 3210313671, int .i64 3336571891, int .i64 3584528711, int .i64 113926993, int
 .i64 338241895, int .i64 666307205, int .i64 773529912, int .i64 1294757372, int .i64 1396182291, int .i64 1695183700, int .i64 1986661051, int .i64 2177026350, int .i64 2456956037,
 int .i64 2730485921, int .i64 2820302411, int .i64 3259730800, int .i64 3345764771, int .i64 3516065817, int .i64 3600352804, int .i64 4094571909, int .i64 275423344, int .i64
 430227734, int .i64 506948616, int .i64 659060556, int .i64 883997877, int .i64 958139571, int .i64 1322822218, int .i64 1537002063, int .i64 1747873779, int .i64 1955562222, int
 .i64 2024104815, int .i64 2227730452, int .i64 2361852424, int .i64 2428436474, int .i64 2756734187, int .i64 3204031479, int .i64 3329325298])
theorem E212  {r : V} (h : T212 (orcE C)  = some r) : runE C 212 [] = some r := ofR (j := 1) (F := fun s => T212 (orc C s.k) ) (fun _ => by kernel_rfl) (by
  unfold T212
  exact cC) h
def T213 (O : Orc)  : Option V := some (tup [int .i64 1779033703, int .i64 3144134277, int .i64 1013904242, int .i64 2773480762, int .i64 1359893119, int
 .i64 2600822924, int .i64 528734635, int .i64 1541459225])
theorem E213  {r : V} (h : T213 (orcE C)  = some r) : runE C 213 [] = some r := ofR (j := 1) (F := fun s => T213 (orc C s.k) ) (fun _ => by kernel_rfl) (by
  unfold T213
  exact cC) h
def T214 (O : Orc) (k : Nat) (y1 : Nat) (y2 : List V) : Option V := must (decide (y2.length = y1 * 1)) (must (true && (0 + y1).ble 140737488355328 && ((0 + y1) * 1).ble
 140737488355328) (must (true && (0 + y1 + 1).ble 140737488355328 && ((0 + y1 + 1) * 1).ble 140737488355328) (O.L 0 214 0 [true, true, false] [] k [(0, sl y1 y2), (3, ref 0)] [Ob.row 5 (0 + y1 + 1)
 (y2 ++ [int .u8 128]) false])))
theorem E214 (y1 y2) {r : V} (h : T214 (orcE C) 0 y1 y2 = some r) : runE C 214 [sl y1 y2] = some r := ofR (j := 1) (F := fun s => T214 (orc C s.k) s.k y1 y2) (fun _ =>
 by kernel_rfl) (by
  unfold T214
  repeat' first | (with_reducible first | intro _ | exact cC | apply cM) | exact cD0 gK) h
def T186l1 (O : Orc) (k m : Nat) (y1 : Nat) (y2 : List V) (y3 : Int) (y4 y5 : List V) : Option V := bif decide (y3 < (↑y1 : Int)) then O.L 0 186 2 [true, true, true,
 true, false, true, false, true, false, false, true, false, true] [m] k [(3, ptr 0 0), (4, ptr 1 0), (5, sl y1 y2), (6, int .i64 y3), (7, ptr 2 0), (8, int .i64 0)] [Ob.box 217 y4 false,
 Ob.box 219 y5 false, Ob.box 217 [int .i64 0, int .i64 0, int .i64 0, int .i64 0, int .i64 0, int .i64 0, int .i64 0, int .i64 0, int .i64 0, int .i64 0, int .i64 0, int .i64 0,
 int .i64 0, int .i64 0, int .i64 0, int .i64 0, int .i64 0, int .i64 0, int .i64 0, int .i64 0, int .i64 0, int .i64 0, int .i64 0, int .i64 0, int .i64 0, int .i64 0,
 int .i64 0, int .i64 0, int .i64 0, int .i64 0, int .i64 0, int .i64 0, int .i64 0, int .i64 0, int .i64 0, int .i64 0, int .i64 0, int .i64 0, int .i64 0, int .i64 0,
 int .i64 0, int .i64 0, int .i64 0, int .i64 0, int .i64 0, int .i64 0, int .i64 0, int .i64 0, int .i64 0, int .i64 0, int .i64 0, int .i64 0, int .i64 0, int .i64 0,
 int .i64 0, int .i64 0, int .i64 0, int .i64 0, int .i64 0, int .i64 0, int .i64 0, int .i64 0, int .i64 0, int .i64 0] false] else O.L 0 186 10 [true, true, true, true, true,
 true, false, true] [] k [(4, ptr 0 0), (17, ref 1), (18, int .i64 0)] [Ob.box 219 y5 false, Ob.row 5 0 [] false]
theorem E186l1 (y1 y2 y3 y4 y5) {r : V} (h : T186l1 (orcE C) 0 0 y1 y2 y3 y4 y5 = some r) : loopE C 186 0 [true, true, true, true, false, true] []
 [(3, ptr 0 0), (4, ptr 1 0), (5, sl y1 y2), (6, int .i64 y3)] [Ob.box 217 y4 false, Ob.box 219 y5 false] = some r := ofL (j := 0) (F := fun s => T186l1 (orc C s.k) s.k s.m y1 y2 y3 y4 y5)
 (fs0 fun _ _ => by kernel_rfl) (by
  unfold T186l1
  repeat' first | (with_reducible first | intro _ | exact cC | apply cF) | exact cD0 gK | exact cD1 gK gM) h
def T187 (O : Orc) (y1 : Nat) (y2 : List V) (y3 : Int) : Option V := need (O.R 0 218 [sl y1 y2, int .i64 y3]) fun x1 => asTup (some x1) fun x2 => asOsl x2[0]? fun x3
 x4 => some (tup [int .i64 y3, int .i64 (↑y1 : Int), osl x3 x4])
theorem E187 (y1 y2 y3) {r : V} (h : T187 (orcE C) y1 y2 y3 = some r) : runE C 187 [sl y1 y2, int .i64 y3] = some r := ofR (j := 1) (F := fun s => T187 (orc C s.k) y1 y2 y3) (fun _ => by kernel_rfl) (by
  unfold T187
  repeat' first | (with_reducible first | intro _ | exact cC | apply cN cR | apply cT | apply cO | apply cN cC | exact cR)) h
def T188 (O : Orc) (k : Nat) (y1 : Nat) (y2 : List V) : Option V := need (O.R 0 138 [str { data := #[(109 : UInt8), (101 : UInt8), (115 : UInt8), (115 : UInt8), (97 : UInt8),
 (103 : UInt8), (101 : UInt8)] }, sl y1 y2]) fun x1 => asTup (some x1) fun x2 => asOsl x2[0]? fun x3 x4 => O.L 0 188 0 [true, true, true, true, false, true] [] k [(3, ref 0), (4, ref 1), (5,
 int .i64 0), (6, int .i64 0)] [Ob.row 5 x3 x4 false, Ob.row 2 0 [] false]
theorem E188 (y1 y2) {r : V} (h : T188 (orcE C) 0 y1 y2 = some r) : runE C 188 [sl y1 y2] = some r := ofR (j := 1) (F := fun s => T188 (orc C s.k) s.k y1 y2) (fun _ =>
 by kernel_rfl) (by
  unfold T188
  repeat' first | (with_reducible first | intro _ | exact cC | apply cN cR | apply cT | apply cO | apply cN cC | exact cR) | exact cD0 gK) h
def T145l1 (O : Orc) (m : Nat) (y1 : Nat) (y2 : List V) (y3 y4 y5 y6 y7 : Int) (y8 : Nat) (y9 : List V) (y10 : Nat) (y11 : List V) (y12 : Int) (y13
 : Int) (y14 : Int) (y15 : Nat) (y16 : List V) (y17 : Nat) (y18 : List V) (y19 : Nat) (y20 : List V) : Option V := bif decide (y4 < 19) then must (inB y4 y19) (PI.asInt .i64 y20[y4.toNat * 1]? fun x1
 => need (O.R 0 190 [sl y1 y2, int .i64 y3, int .i64 y4]) fun x2 => asTup (some x2) fun x3 => asOsl x3[0]? fun x4 x5 => need (O.R 0 189 [sl x4 x5, int .i64 x1]) fun x6 => asTup (some x6) fun
 x7 => asOsl x7[0]? fun x8 x9 => must (x9.all flatV) (must (true && (y15 + 1).ble 140737488355328 && ((y15 + 1) * 24).ble 140737488355328) (O.L 0 145 0 [true, true, true, false, true] [] m [(0, sl y1
 y2), (1, int .i64 y3), (6, ptr 0 0), (7, ptr 3 0), (8, ref 6), (9, int .i64 (i64.wrap (y4 + 1)))] [Ob.box 167 [int .i64 y5, ref 1, int .i64 y6, int .i64 y7, ref 2] false,
 Ob.nrow [] 22 y8 y9, Ob.nrow [] 22 y10 y11, Ob.box 167 [int .i64 y12, ref 4, int .i64 y13, int .i64 y14, ref 5] false, Ob.nrow [] 22 (y15 + 1) (y16 ++ [own false 5 1 x8 x9]), Ob.nrow [] 22
 y17 y18, Ob.row 2 y19 y20 false]))) else some (tup [int .i64 y12, osl y15 y16, int .i64 y13, int .i64 y14, osl y17 y18])
theorem E145l1 (y1 y2 y3 y4 y5 y6 y7 y8 y9 y10 y11 y12 y13 y14 y15) (y16 :
 List V) (y17 : Nat) (y18 : List V) (y19 : Nat) (y20 : List V) {r : V} (h : T145l1 (orcE C) 0 y1 y2 y3 y4 y5 y6 y7 y8 y9 y10 y11 y12 y13 y14 y15 y16 y17 y18 y19 y20 = some r) : loopE C 145 0
 [true, true, true, false, true] [] [(0, sl y1 y2), (1, int .i64 y3), (6, ptr 0 0), (7, ptr 3 0), (8, ref 6), (9, int .i64 y4)] [Ob.box 167 [int .i64 y5, ref 1, int .i64 y6, int
 .i64 y7, ref 2] false, Ob.nrow [] 22 y8 y9, Ob.nrow [] 22 y10 y11, Ob.box 167 [int .i64 y12, ref 4, int .i64 y13, int .i64 y14, ref 5] false, Ob.nrow [] 22 y15 y16, Ob.nrow [] 22 y17 y18,
 Ob.row 2 y19 y20 false] = some r := ofL (j := 0) (F := fun s => T145l1 (orc C s.k) s.m y1 y2 y3 y4 y5 y6 y7 y8 y9 y10 y11 y12 y13 y14 y15 y16 y17 y18 y19 y20) (fs0 fun _ _ => by kernel_rfl) (by
  unfold T145l1
  repeat' first | (with_reducible first | intro _ | exact cC | apply cN cR | apply cT | apply cI | apply cM | apply cF | apply cO | apply cN cC | exact cR) | exact cD0 gM) h
def T104s2 (O : Orc) (y1 : Nat) (y2 : List V) : Option V := need (O.R 0 167 [sl y1 y2, fn 181 []]) fun x1 => asTup (some x1) fun x2 => PI.asInt .i64 x2[0]? fun x3 =>
 some (tup [bool (decide (x3 ≥ 0))])
theorem E104s2 (y1 y2) {r : V} (h : T104s2 (orcE C) y1 y2 = some r) : runE C 104 [sl y1 y2, fn 181 []] = some r := ofR (j := 1) (F := fun s => T104s2 (orc C s.k) y1 y2) (fun _ => by kernel_rfl) (by
  unfold T104s2
  repeat' first | (with_reducible first | intro _ | exact cC | apply cN cR | apply cT | apply cI | apply cN cC | exact cR)) h
def T106 (O : Orc) (y1 : Nat) (y2 : List V) : Option V := some (tup [bool ((↑y1 : Int) == 32)])
theorem E106 (y1 y2) {r : V} (h : T106 (orcE C) y1 y2 = some r) : runE C 106 [sl y1 y2] = some r := ofR (j := 1) (F := fun s => T106 (orc C s.k) y1 y2) (fun _ =>
 by kernel_rfl) (by
  unfold T106
  exact cC) h
def T166 (O : Orc) (y1 : Nat) (y2 : List V) (y3 : Nat) (y4 : List V) : Option V := need (O.R 0 200 [sl y1 y2, fn 201 [pin [sl y3 y4] 0]]) fun x1 => asTup (some
 x1) fun x2 => PI.asInt .i64 x2[0]? fun x3 => some (tup [int .i64 x3])
theorem E166 (y1 y2 y3 y4) {r : V} (h : T166 (orcE C) y1 y2 y3 y4 = some r) : runE C 166 [sl y1 y2, sl y3 y4] = some r := ofR (j := 1) (F := fun s =>
 T166 (orc C s.k) y1 y2 y3 y4) (fun _ => by kernel_rfl) (by
  unfold T166
  repeat' first | (with_reducible first | intro _ | exact cC | apply cN cR | apply cT | apply cI | apply cN cC | exact cR)) h
def T167l1 (O : Orc) (m : Nat) (y1 : Nat) (y2 : List V) (y3 y4 : Int) : Option V := bif decide (y4 < y3) then must (inB y4 y1) (must (decide (y4.toNat * 1 < y2.length))
 (asSl y2[y4.toNat * 1]? fun x1 x2 => need (O.R 0 105 [sl x1 x2]) fun x3 => asTup (some x3) fun x4 => PI.asBool x4[0]? fun x5 => bif x5 then some (tup [int .i64 y4]) else O.L 0 167 0 [true,
 false, true] [] m [(0, sl y1 y2), (1, fn 105 []), (7, int .i64 y3), (8, int .i64 (i64.wrap (y4 + 1)))] [])) else some (tup [int .i64 (-1)])
theorem E167l1 (y1 y2 y3 y4) {r : V} (h : T167l1 (orcE C) 0 y1 y2 y3 y4 = some r) : loopE C 167 0 [true, false, true] [] [(0, sl y1 y2), (1, fn 105 []), (7,
 int .i64 y3), (8, int .i64 y4)] [] = some r := ofL (j := 0) (F := fun s => T167l1 (orc C s.k) s.m y1 y2 y3 y4) (fs0 fun _ _ => by kernel_rfl) (by
  unfold T167l1
  repeat' first | (with_reducible first | intro _ | exact cC | apply cN cR | apply cT | apply cM | apply cF | apply cB | apply cL | apply cN cC | exact cR) | exact cD0 gM) h
def T133l1 (O : Orc) (m : Nat) (y1 y2 : Int) (y3 : Nat) (y4 : List V) : Option V := bif decide (y2 ≥ 0) then must (inB y2 y3) (must ([int .u8 (u8.wrap
 y1)].length.beq 1 && (y2.toNat * 1 + [int .u8 (u8.wrap y1)].length).ble y4.length) (O.L 0 133 0 [true, true, false, true] [] m [(0, int .i64 (y1.fdiv 256)), (3, ref 0), (4, int .i64
 (i64.wrap (y2 - 1)))] [Ob.row 5 y3 (splice y4 (y2.toNat * 1) [int .u8 (u8.wrap y1)]) false])) else some (tup [sl y3 y4])
theorem E133l1 (y1 y2 y3 y4) {r : V} (h : T133l1 (orcE C) 0 y1 y2 y3 y4 = some r) : loopE C 133 0 [true, true, false, true] [] [(0, int .i64 y1), (3, ref 0),
 (4, int .i64 y2)] [Ob.row 5 y3 y4 false] = some r := ofL (j := 0) (F := fun s => T133l1 (orc C s.k) s.m y1 y2 y3 y4) (fs0 fun _ _ => by kernel_rfl) (by
  unfold T133l1
  repeat' first | (with_reducible first | intro _ | exact cC | apply cM | apply cF) | exact cD0 gM) h
def T183 (O : Orc) (k : Nat) (y1 : Nat) (y2 : List V) : Option V := bif decide ((↑y1 : Int) > 60) then some (tup [sl 0 [], bool false]) else O.L 0 183 0 [true, true, true,
 false, true] [] k [(4, ref 0), (11, sl y1 y2), (12, int .i64 (↑y1 : Int)), (13, int .i64 0)] [Ob.row 5 0 [] false]
theorem E183 (y1 y2) {r : V} (h : T183 (orcE C) 0 y1 y2 = some r) : runE C 183 [sl y1 y2] = some r := ofR (j := 1) (F := fun s => T183 (orc C s.k) s.k y1 y2) (fun _ =>
 by kernel_rfl) (by
  unfold T183
  repeat' first | (with_reducible first | intro _ | exact cC | apply cF) | exact cD0 gK) h
def T130 (O : Orc) (k : Nat) (y1 : Nat) (y2 : List V) : Option V := O.L 0 130 0 [true, true, false, true] [] k [(3, ref 0), (13, sl y1 y2), (14, int .i64 (↑y1 : Int)), (15,
 int .i64 0)] [Ob.row 5 0 [] false]
theorem E130 (y1 y2) {r : V} (h : T130 (orcE C) 0 y1 y2 = some r) : runE C 130 [sl y1 y2] = some r := ofR (j := 1) (F := fun s => T130 (orc C s.k) s.k y1 y2) (fun _ =>
 by kernel_rfl) (by
  unfold T130
  repeat' first | with_reducible exact cC | exact cD0 gK) h
def T148l1 (O : Orc) (m : Nat) (y1 : Nat) (y2 : List V) (y3 : Nat) (y4 : List V) (y5 : Int) (y6 : Nat) (y7 : List V) (y8 y9 : Int) : Option V := bif decide (y9 < y8) then
 must (inB y9 y6) (PI.asInt .i64 y7[y9.toNat * 6]? fun x1 => PI.asInt .i64 y7[y9.toNat * 6 + 1]? fun x2 => asSl y7[y9.toNat * 6 + 1 + 1]? fun x3 x4 => PI.asInt .i64 y7[y9.toNat * 6 + 1 + 1 + 1]? fun x5
 => PI.asInt .i64 y7[y9.toNat * 6 + 1 + 1 + 1 + 1]? fun x6 => asSl y7[y9.toNat * 6 + 1 + 1 + 1 + 1 + 1]? fun x7 x8 => must (inB x1 y1) (must (decide (x1.toNat * 2 + 0 < y2.length)) (asSl y2[x1.toNat *
 2 + 0]? fun x9 x10 => need (O.R 0 166 [sl y3 y4, sl x9 x10]) fun x11 => asTup (some x11) fun x12 => PI.asInt .i64 x12[0]? fun x13 => bif decide (x13 ≥ 0) then must (inB x13 y3) (PI.asInt .i64
 y4[x13.toNat * 2 + 1]? fun x14 => O.L 0 148 0 [true, true, false, true] [] m [(0, sl y1 y2), (1, sl y3 y4), (7, int .i64 (i64.wrap (y5 + x14))), (12, sl y6 y7), (13, int .i64 y8),
 (14, int .i64 (i64.wrap (y9 + 1)))] []) else O.L 0 148 0 [true, true, false, true] [] m [(0, sl y1 y2), (1, sl y3 y4), (7, int .i64 y5), (12, sl y6 y7), (13, int .i64 y8), (14,
 int .i64 (i64.wrap (y9 + 1)))] []))) else some (tup [int .i64 y5])
theorem E148l1 (y1 y2 y3 y4 y5 y6 y7 y8 y9) {r : V} (h : T148l1 (orcE C) 0 y1 y2 y3 y4 y5 y6 y7 y8 y9 = some r) :
 loopE C 148 0 [true, true, false, true] [] [(0, sl y1 y2), (1, sl y3 y4), (7, int .i64 y5), (12, sl y6 y7), (13, int .i64 y8), (14, int .i64 y9)] [] = some r := ofL (j := 0) (F := fun s =>
 T148l1 (orc C s.k) s.m y1 y2 y3 y4 y5 y6 y7 y8 y9) (fs0 fun _ _ => by kernel_rfl) (by
  unfold T148l1
  repeat' first | (with_reducible first | intro _ | exact cC | apply cN cR | apply cT | apply cI | apply cM | apply cF | apply cL | apply cN cC | exact cR) | exact cD0 gM) h
def T110 (O : Orc) (y1 : Nat) (y2 : List V) : Option V := bif y1.beq (OfNat.ofNat 0) then both (some (tup [osl 0 []])) (must (decide (y2.length = y1 * 1)) (must
 (true && (0 + y1).ble 140737488355328 && ((0 + y1) * 1).ble 140737488355328) (must (false || y2.all flatV) (some (tup [osl (0 + y1) y2]))))) else must (decide (y2.length = y1 * 1)) (must (true &&
 (0 + y1).ble 140737488355328 && ((0 + y1) * 1).ble 140737488355328) (must (false || y2.all flatV) (some (tup [osl (0 + y1) y2]))))
theorem E110 (y1 y2) {r : V} (h : T110 (orcE C) y1 y2 = some r) : runE C 110 [sl y1 y2] = some r := ofR (j := 1) (F := fun s => T110 (orc C s.k) y1 y2) (fun _ =>
 by kernel_rfl) (by
  unfold T110
  repeat' first | (with_reducible first | intro _ | exact cC | apply cM | apply cF | apply cW)) h
def T151l1 (O : Orc) (m : Nat) (y1 : Nat) (y2 : List V) (y3 y4 : Int) (y5 : Nat) (y6 : List V) : Option V := bif decide (y4 < y3) then must (inB y4 y1) (asSl y2[y4.toNat *
 2]? fun x1 x2 => PI.asInt .i64 y2[y4.toNat * 2 + 1]? fun x3 => need (O.R 0 110 [sl x1 x2]) fun x4 => asTup (some x4) fun x5 => asOsl x5[0]? fun x6 x7 => must (x7.all flatV) (must (true && (y5 +
 1).ble 140737488355328 && ((y5 + 1) * 32).ble 140737488355328) (O.L 0 151 0 [true, true, false, true] [] m [(3, ref 0), (7, sl y1 y2), (8, int .i64 y3), (9, int .i64 (i64.wrap (y4 +
 1)))] [Ob.nrow [] 161 (y5 + 1) (y6 ++ [own false 5 1 x6 x7, int .i64 x3])]))) else some (tup [osl y5 y6])
theorem E151l1 (y1 y2 y3 y4 y5 y6) {r : V} (h : T151l1 (orcE C) 0 y1 y2 y3 y4 y5 y6 = some r) : loopE C 151 0 [true, true, false, true] [] [(3,
 ref 0), (7, sl y1 y2), (8, int .i64 y3), (9, int .i64 y4)] [Ob.nrow [] 161 y5 y6] = some r := ofL (j := 0) (F := fun s => T151l1 (orc C s.k) s.m y1 y2 y3 y4 y5 y6) (fs0 fun _ _ => by
 kernel_rfl) (by
  unfold T151l1
  repeat' first | (with_reducible first | intro _ | exact cC | apply cN cR | apply cT | apply cI | apply cM | apply cF | apply cL | apply cO | apply cN cC | exact cR) | exact cD0 gM) h
def T152l1 (O : Orc) (m : Nat) (y1 : Nat) (y2 : List V) (y3 y4 : Int) (y5 : Nat) (y6 : List V) : Option V := bif decide (y4 < y3) then must (inB y4 y1) (must (decide
 (y4.toNat * 1 < y2.length)) (asSl y2[y4.toNat * 1]? fun x1 x2 => need (O.R 0 110 [sl x1 x2]) fun x3 => asTup (some x3) fun x4 => asOsl x4[0]? fun x5 x6 => must (x6.all flatV) (must (true && (y5 +
 1).ble 140737488355328 && ((y5 + 1) * 24).ble 140737488355328) (O.L 0 152 0 [true, true, false, true] [] m [(3, ref 0), (7, sl y1 y2), (8, int .i64 y3), (9, int .i64 (i64.wrap (y4 +
 1)))] [Ob.nrow [] 22 (y5 + 1) (y6 ++ [own false 5 1 x5 x6])])))) else some (tup [osl y5 y6])
theorem E152l1 (y1 y2 y3 y4 y5 y6) {r : V} (h : T152l1 (orcE C) 0 y1 y2 y3 y4 y5 y6 = some r) : loopE C 152 0 [true, true, false, true] [] [(3,
 ref 0), (7, sl y1 y2), (8, int .i64 y3), (9, int .i64 y4)] [Ob.nrow [] 22 y5 y6] = some r := ofL (j := 0) (F := fun s => T152l1 (orc C s.k) s.m y1 y2 y3 y4 y5 y6) (fs0 fun _ _ => by
 kernel_rfl) (by
  unfold T152l1
  repeat' first | (with_reducible first | intro _ | exact cC | apply cN cR | apply cT | apply cM | apply cF | apply cL | apply cO | apply cN cC | exact cR) | exact cD0 gM) h
def T97l2 (O : Orc) (m q0 : Nat) (y1 : Nat) (y2 : List V) (y3 y4 : Int) : Option V := bif decide (y4 < y3) then must (inB y4 y1) (must (decide (y4.toNat * 2 + 0 < y2.length))
 (must (inB y3 y1) (must (decide (y3.toNat * 2 + 0 < y2.length)) (asSl y2[y4.toNat * 2 + 0]? fun x1 x2 => asSl y2[y3.toNat * 2 + 0]? fun x3 x4 => need (O.R 0 82 [sl x1 x2, sl x3 x4]) fun x5 =>
 asTup (some x5) fun x6 => PI.asBool x6[0]? fun x7 => bif x7 then some (tup [int .i64 7]) else O.L 0 97 2 [true, true, true, false, true, false, true, false, false, true, true, true] [q0] m [(0,
 sl y1 y2), (3, int .i64 y3), (4, int .i64 (i64.wrap (y4 + 1)))] [])))) else O.L 0 97 0 [true, true, true, false, true] [] q0 [(0, sl y1 y2), (3, int .i64 (i64.wrap (y3 +
 1)))] []
theorem E97l2 (y1 y2 y3 y4) {r : V} (h : T97l2 (orcE C) 0 0 y1 y2 y3 y4 = some r) : loopE C 97 2 [true, true, true, false, true, false, true, false, false, true,
 true, true] [0] [(0, sl y1 y2), (3, int .i64 y3), (4, int .i64 y4)] [] = some r := ofL (j := 0) (F := fun s => T97l2 (orc C s.k) s.m (s.fs.getD 0 0) y1 y2 y3 y4) (fs1 fun _ _ _ => by
 kernel_rfl) (by
  unfold T97l2
  repeat' first | (with_reducible first | intro _ | exact cC | apply cN cR | apply cT | apply cM | apply cF | apply cB | apply cL | apply cN cC | exact cR) | exact cD0 (gF (i := 0) (by decide)) | exact cD1 gM (gF (i := 0) (by decide))) h
def T194 (O : Orc) (y1 : Int) (y2 : Nat) (y3 : List V) (y4 y5 : Int) (y6 : Nat) (y7 : List V) : Option V := need (O.R 0 98 [int .i64 y1, int .i64 0, int
 .i64 3]) fun x1 => asTup (some x1) fun x2 => PI.asBool x2[0]? fun x3 => bif !x3 then some (tup [bool false]) else bif (↑y2 : Int) != 19 then some (tup [bool false]) else need (O.R 0 221 [agg
 [int .i64 y4, int .i64 y5, sl y6 y7]]) fun x4 => asTup (some x4) fun x5 => PI.asBool x5[0]? fun x6 => bif !x6 then some (tup [bool false]) else bif y4 == y1 then some (tup [bool (y5 ==
 4)]) else some (tup [bool false])
theorem E194 (y1 y2 y3 y4 y5 y6 y7) {r : V} (h : T194 (orcE C) y1 y2 y3 y4 y5 y6 y7 = some r) : runE C 194 [agg [int .i64 y1,
 sl y2 y3, int .i64 y4, int .i64 y5, sl y6 y7]] = some r := ofR (j := 1) (F := fun s => T194 (orc C s.k) y1 y2 y3 y4 y5 y6 y7) (fun _ => by kernel_rfl) (by
  unfold T194
  repeat' first | (with_reducible first | intro _ | exact cC | apply cN cR | apply cT | apply cF | apply cB | apply cN cC | exact cR)) h
def T153l1 (O : Orc) (m : Nat) (y1 : Nat) (y2 : List V) (y3 y4 : Int) (y5 : Nat) (y6 : List V) (y7 y8 : Int) (y9 : Nat) (y10 : List V) (y11 : Nat) (y12 : List V) (y13 : Nat) (y14 : List V) : Option V := bif decide (y3 < 19) then must (inB y3 y5) (must (decide (y3.toNat * 1 < y6.length)) (asSl y6[y3.toNat * 1]? fun x1 x2 => bif (↑x1 : Int) != 32 then some
 (tup [bool false]) else must (inB y3 y5) (must (decide (y3.toNat * 1 < y6.length)) (must (inB y3 y11) (PI.asInt .i64 y12[y3.toNat * 1]? fun x3 => asSl y6[y3.toNat * 1]? fun x4 x5 => need (O.R 0
 189 [sl x4 x5, int .i64 (i64.wrap (3 - x3))]) fun x6 => asTup (some x6) fun x7 => asOsl x7[0]? fun x8 x9 => must (decide (x9.length = x8 * 1)) (must (true && (y13 + x8).ble 140737488355328
 && ((y13 + x8) * 1).ble 140737488355328) (O.L 0 153 0 [true, true, true, true, false, true] [] m [(0, sl y1 y2), (5, ptr 0 0), (7, ref 1), (8, ref 2), (9, int .i64 (i64.wrap (y3 +
 1)))] [Ob.box 167 [int .i64 y4, sl y5 y6, int .i64 y7, int .i64 y8, sl y9 y10] false, Ob.row 2 y11 y12 false, Ob.row 5 (y13 + x8) (y14 ++ x9) false]))))))) else need (O.R 0 195 [sl y1 y2,
 sl y13 y14, agg [int .i64 y7, int .i64 y8, sl y9 y10]]) fun x10 => asTup (some x10) fun x11 => PI.asBool x11[0]? fun x12 => some (tup [bool x12])
theorem E153l1 (y1 y2 y3 y4 y5 y6 y7 y8 y9 y10 y11 y12 y13 y14) {r : V} (h :
 T153l1 (orcE C) 0 y1 y2 y3 y4 y5 y6 y7 y8 y9 y10 y11 y12 y13 y14 = some r) : loopE C 153 0 [true, true, true, true, false, true] [] [(0, sl y1 y2), (5, ptr 0 0), (7, ref 1), (8, ref 2),
 (9, int .i64 y3)] [Ob.box 167 [int .i64 y4, sl y5 y6, int .i64 y7, int .i64 y8, sl y9 y10] false, Ob.row 2 y11 y12 false, Ob.row 5 y13 y14 false] = some r := ofL (j := 0) (F := fun s =>
 T153l1 (orc C s.k) s.m y1 y2 y3 y4 y5 y6 y7 y8 y9 y10 y11 y12 y13 y14) (fs0 fun _ _ => by kernel_rfl) (by
  unfold T153l1
  repeat' first | (with_reducible first | intro _ | exact cC | apply cN cR | apply cT | apply cI | apply cM | apply cF | apply cB | apply cL | apply cO | apply cN cC | exact cR) | exact cD0 gM) h
def T157l2 (O : Orc) (m q0 : Nat) (y1 : Nat) (y2 : List V) (y3 : Nat) (y4 : List V) (y5 y6 : Int) (y7 : List V) (y8 : Nat) (y9 y10 y11 : Int) (y12 : Nat) (y13
 : List V) (y14 : Nat) (y15 : List V) (y16 : Nat) (y17 : List V) (y18 : Nat) (y19 : List V) : Option V := bif decide (y9 < (↑y3 : Int)) then must (inB y9 y3) (must (decide (y9.toNat * 2 + 0 <
 y4.length)) (asSl y4[y9.toNat * 2 + 0]? fun x1 x2 => asSl y7[y8]? fun x3 x4 => need (O.R 0 82 [sl x1 x2, sl x3 x4]) fun x5 => asTup (some x5) fun x6 => PI.asBool x6[0]? fun x7 => bif x7 then must
 (inB y9 y3) (PI.asInt .i64 y4[y9.toNat * 2 + 1]? fun x8 => O.L 0 157 2 [true, true, false, true, false, true, false, false, true, true] [q0] m [(0, sl y1 y2), (1, sl y3 y4), (5, ptr 0 0), (7,
 int .i64 (i64.wrap (y5 + x8))), (8, int .i64 y6), (9, V.prj y7 y8), (10, int .i64 (i64.wrap (y9 + 1)))] [Ob.box 55 [int .i64 y10, int .i64 y11, sl y12 y13, sl y14 y15,
 sl y16 y17, sl y18 y19] false]) else O.L 0 157 2 [true, true, false, true, false, true, false, false, true, true] [q0] m [(0, sl y1 y2), (1, sl y3 y4), (5, ptr 0 0), (7, int .i64 y5), (8,
 int .i64 y6), (9, V.prj y7 y8), (10, int .i64 (i64.wrap (y9 + 1)))] [Ob.box 55 [int .i64 y10, int .i64 y11, sl y12 y13, sl y14 y15, sl y16 y17, sl y18 y19] false])) else O.L 0
 157 0 [true, true, false, true] [] q0 [(0, sl y1 y2), (1, sl y3 y4), (5, ptr 0 0), (7, int .i64 y5), (8, int .i64 (i64.wrap (y6 + 1)))] [Ob.box 55 [int .i64 y10, int .i64 y11,
 sl y12 y13, sl y14 y15, sl y16 y17, sl y18 y19] false]
theorem E157l2 (y1 y2 y3 y4 y5 y6 y7 y8 y9 y10 y11 y12 y13 y14 y15 y16 y17 y18 y19) {r : V} (h : T157l2 (orcE C) 0 0 y1 y2 y3 y4 y5 y6 y7 y8 y9 y10 y11 y12 y13 y14 y15 y16 y17 y18 y19 = some r) : loopE C 157 2 [true, true,
 false, true, false, true, false, false, true, true] [0] [(0, sl y1 y2), (1, sl y3 y4), (5, ptr 0 0), (7, int .i64 y5), (8, int .i64 y6), (9, V.prj y7 y8), (10, int .i64 y9)] [Ob.box 55
 [int .i64 y10, int .i64 y11, sl y12 y13, sl y14 y15, sl y16 y17, sl y18 y19] false] = some r := ofL (j := 0) (F := fun s => T157l2 (orc C s.k) s.m (s.fs.getD 0 0) y1 y2 y3 y4 y5 y6
 y7 y8 y9 y10 y11 y12 y13 y14 y15 y16 y17 y18 y19) (fs1 fun _ _ _ => by kernel_rfl) (by
  unfold T157l2
  repeat' first | (with_reducible first | intro _ | exact cC | apply cN cR | apply cT | apply cI | apply cM | apply cF | apply cB | apply cL | apply cN cC | exact cR) | exact cD0 (gF (i := 0) (by decide)) | exact cD1 gM (gF (i := 0) (by decide))) h
def T191 (O : Orc) (y1 : Int) (y2 : Nat) (y3 : List V) (y4 y5 : Int) (y6 : Nat) (y7 : List V) : Option V := need (O.R 0 219 [int .i64 y1]) fun x1 => asTup
 (some x1) fun x2 => PI.asBool x2[0]? fun x3 => bif x3 then bif (↑y2 : Int) == 19 then bif y4 == y1 then some (tup [bool (y5 == 4)]) else some (tup [bool false]) else some (tup [bool
 false]) else some (tup [bool false])
theorem E191 (y1 y2 y3 y4 y5 y6 y7) {r : V} (h : T191 (orcE C) y1 y2 y3 y4 y5 y6 y7 = some r) : runE C 191 [agg [int .i64 y1,
 sl y2 y3, int .i64 y4, int .i64 y5, sl y6 y7]] = some r := ofR (j := 1) (F := fun s => T191 (orc C s.k) y1 y2 y3 y4 y5 y6 y7) (fun _ => by kernel_rfl) (by
  unfold T191
  repeat' first | (with_reducible first | intro _ | exact cC | apply cN cR | apply cT | apply cF | apply cB | apply cN cC | exact cR)) h
def T192 (O : Orc) (k : Nat) (y1 : Nat) (y2 : List V) : Option V := need (O.R 0 147 [str { data := #[(109 : UInt8), (101 : UInt8), (115 : UInt8), (115 : UInt8), (97 : UInt8),
 (103 : UInt8), (101 : UInt8)] }, sl 1 [sl y1 y2]]) fun x1 => asTup (some x1) fun x2 => asOsl x2[0]? fun x3 x4 => must (true && decide (4 ≤ (↑x3 : Int))) (O.L 0 192 0 [true, true, false, true] [] k
 [(3, ref 0), (4, int .i64 0), (13, sl 4 (List.take 4 (List.drop 0 x4))), (14, int .i64 4), (15, int .i64 0)] [Ob.row 2 0 [] false])
theorem E192 (y1 y2) {r : V} (h : T192 (orcE C) 0 y1 y2 = some r) : runE C 192 [sl y1 y2] = some r := ofR (j := 1) (F := fun s => T192 (orc C s.k) s.k y1 y2) (fun _ =>
 by kernel_rfl) (by
  unfold T192
  repeat' first | (with_reducible first | intro _ | exact cC | apply cN cR | apply cT | apply cM | apply cO | apply cN cC | exact cR) | exact cD0 gK) h
def T146l1 (O : Orc) (m : Nat) (y1 : Nat) (y2 : List V) (y3 y4 y5 : Int) (y6 : Nat) (y7 : List V) (y8 y9 : Int) (y10 : Nat) (y11 : List V) (y12 : Nat) (y13
 : List V) (y14 : Nat) (y15 : List V) : Option V := bif decide (y4 < y3) then must (inB y4 y14) (PI.asInt .i64 y15[y4.toNat * 1]? fun x1 => must (inB y4 y6) (must (decide (y4.toNat * 1 < y7.length))
 (asSl y7[y4.toNat * 1]? fun x2 x3 => need (O.R 0 193 [sl x2 x3, int .i64 (i64.wrap (3 - x1))]) fun x4 => asTup (some x4) fun x5 => asOsl x5[0]? fun x6 x7 => must (decide (x7.length = x6 *
 1)) (must (true && (y12 + x6).ble 140737488355328 && ((y12 + x6) * 1).ble 140737488355328) (O.L 0 146 0 [true, true, true, false, true] [] m [(0, sl y1 y2), (5, ptr 0 0), (7, ref 1), (21, ref
 2), (22, int .i64 y3), (23, int .i64 (i64.wrap (y4 + 1)))] [Ob.box 167 [int .i64 y5, sl y6 y7, int .i64 y8, int .i64 y9, sl y10 y11] false, Ob.row 5 (y12 + x6) (y13 ++ x7) false,
 Ob.row 2 y14 y15 false]))))) else need (O.R 0 162 [sl y1 y2, sl y12 y13, agg [int .i64 y8, int .i64 y9, sl y10 y11]]) fun x8 => asTup (some x8) fun x9 => PI.asBool x9[0]? fun x10 => some
 (tup [bool x10])
theorem E146l1 (y1 y2 y3 y4 y5 y6 y7 y8 y9 y10 y11 y12 y13 y14 y15) {r : V} (h : T146l1 (orcE C) 0 y1 y2 y3 y4 y5 y6 y7 y8 y9 y10 y11 y12 y13 y14 y15 = some r) : loopE C 146 0 [true, true, true, false, true] [] [(0, sl y1 y2), (5, ptr 0 0), (7, ref 1),
 (21, ref 2), (22, int .i64 y3), (23, int .i64 y4)] [Ob.box 167 [int .i64 y5, sl y6 y7, int .i64 y8, int .i64 y9, sl y10 y11] false, Ob.row 5 y12 y13 false, Ob.row 2 y14 y15 false] =
 some r := ofL (j := 0) (F := fun s => T146l1 (orc C s.k) s.m y1 y2 y3 y4 y5 y6 y7 y8 y9 y10 y11 y12 y13 y14 y15) (fs0 fun _ _ => by kernel_rfl) (by
  unfold T146l1
  repeat' first | (with_reducible first | intro _ | exact cC | apply cN cR | apply cT | apply cI | apply cM | apply cF | apply cB | apply cL | apply cO | apply cN cC | exact cR) | exact cD0 gM) h
def T223 (O : Orc) (y1 y2 : Int) : Option V := need (O.R 0 51 [int .i64 y1, int .i64 1, int .i64 16]) fun x1 => asTup (some x1) fun x2 => PI.asBool x2[0]?
 fun x3 => bif !x3 then some (tup [int .i64 3, int .i64 0]) else need (O.R 0 51 [int .i64 y2, int .i64 0, int .i64 (i64.wrap (y1 - 1))]) fun x4 => asTup (some x4) fun x5 =>
 PI.asBool x5[0]? fun x6 => bif !x6 then some (tup [int .i64 3, int .i64 0]) else need (O.R 0 198 [int .i64 y1, int .i64 y2]) fun x7 => asTup (some x7) fun x8 => asOsl x8[0]? fun x9 x10 =>
 some (tup [int .i64 0, int .i64 (↑x9 : Int)])
theorem E223 (y1 y2) {r : V} (h : T223 (orcE C) y1 y2 = some r) : runE C 223 [int .i64 y1, int .i64 y2] = some r := ofR (j := 1) (F := fun s => T223 (orc C s.k) y1
 y2) (fun _ => by kernel_rfl) (by
  unfold T223
  repeat' first | (with_reducible first | intro _ | exact cC | apply cN cR | apply cT | apply cF | apply cB | apply cO | apply cN cC | exact cR)) h
def T224 (O : Orc) (k : Nat) (y1 : Int) : Option V := O.L 0 224 0 [true, true, false] [] k [(0, int .i64 y1), (3, int .i64 1)] []
theorem E224 (y1) {r : V} (h : T224 (orcE C) 0 y1 = some r) : runE C 224 [int .i64 y1] = some r := ofR (j := 1) (F := fun s => T224 (orc C s.k) s.k y1) (fun _ => by kernel_rfl) (by
  unfold T224
  repeat' first | with_reducible exact cC | exact cD0 gK) h
def T199 (O : Orc) (y1 : Nat) (y2 : List V) (y3 : Nat) (y4 : List V) : Option V := need (O.R 0 147 [str { data := #[(110 : UInt8), (111 : UInt8), (100 : UInt8), (101 :
 UInt8)] }, sl 2 [sl y1 y2, sl y3 y4]]) fun x1 => asTup (some x1) fun x2 => asOsl x2[0]? fun x3 x4 => must (false || x4.all flatV) (some (tup [osl x3 x4]))
theorem E199 (y1 y2 y3 y4) {r : V} (h : T199 (orcE C) y1 y2 y3 y4 = some r) : runE C 199 [sl y1 y2, sl y3 y4] = some r := ofR (j := 1) (F := fun s =>
 T199 (orc C s.k) y1 y2 y3 y4) (fun _ => by kernel_rfl) (by
  unfold T199
  repeat' first | (with_reducible first | intro _ | exact cC | apply cN cR | apply cT | apply cM | apply cO | apply cN cC | exact cR)) h
def T185 (O : Orc) (k : Nat) (y1 : Nat) (y2 : List V) (y3 : Int) : Option V := O.L 0 185 0 [true, true, false, true] [] k [(0, sl y1 y2), (1, int .i64 y3), (5, ref 0), (6,
 int .i64 0)] [Ob.row 5 0 [] false]
theorem E185 (y1 y2 y3) {r : V} (h : T185 (orcE C) 0 y1 y2 y3 = some r) : runE C 185 [sl y1 y2, int .i64 y3] = some r := ofR (j := 1) (F := fun s => T185 (orc C s.k) s.k y1 y2 y3) (fun _ => by kernel_rfl) (by
  unfold T185
  repeat' first | with_reducible exact cC | exact cD0 gK) h
def T214l1 (O : Orc) (k m : Nat) (y1 : Nat) (y2 : List V) (y3 : Nat) (y4 : List V) : Option V := bif (↑y3 : Int).tmod 64 != 56 then must (true && (y3 + 1).ble 140737488355328 &&
 ((y3 + 1) * 1).ble 140737488355328) (O.L 0 214 0 [true, true, false] [] m [(0, sl y1 y2), (3, ref 0)] [Ob.row 5 (y3 + 1) (y4 ++ [int .u8 0]) false]) else O.L 0 214 2 [true, true, true, true,
 false, true] [] k [(3, ref 0), (4, int .i64 (i64.wrap ((↑y1 : Int) * 8))), (5, int .i64 7)] [Ob.row 5 y3 y4 false]
theorem E214l1 (y1 y2 y3 y4) {r : V} (h : T214l1 (orcE C) 0 0 y1 y2 y3 y4 = some r) : loopE C 214 0 [true, true, false] [] [(0, sl y1 y2), (3, ref 0)]
 [Ob.row 5 y3 y4 false] = some r := ofL (j := 0) (F := fun s => T214l1 (orc C s.k) s.k s.m y1 y2 y3 y4) (fs0 fun _ _ => by kernel_rfl) (by
  unfold T214l1
  repeat' first | (with_reducible first | intro _ | exact cC | apply cM | apply cF) | exact cD0 gK | exact cD0 gM) h
def T186l2 (O : Orc) (k m q0 : Nat) (y1 : Nat) (y2 : List V) (y3 y4 : Int) (y5 y6 y7 : List V) : Option V := bif decide (y4 < 16) then must (decide (0 ≤
 i64.wrap (i64.wrap (y3 + i64.wrap (4 * y4)) + 4)) && decide (i64.wrap (i64.wrap (y3 + i64.wrap (4 * y4)) + 4) ≤ (↑y1 : Int))) (must (decide (0 ≤
 i64.wrap (y3 + i64.wrap (4 * y4))) && decide (i64.wrap (y3 + i64.wrap (4 * y4)) ≤ (↑(i64.wrap (i64.wrap (y3 + i64.wrap (4 * y4)) + 4)).toNat :
 Int))) (need (O.R 0 215 [sl ((i64.wrap (i64.wrap (y3 + i64.wrap (4 * y4)) + 4)).toNat - (i64.wrap (y3 + i64.wrap (4 * y4))).toNat) (List.take
 (((i64.wrap (i64.wrap (y3 + i64.wrap (4 * y4)) + 4)).toNat - (i64.wrap (y3 + i64.wrap (4 * y4))).toNat) * 1) (List.drop ((i64.wrap (y3 +
 i64.wrap (4 * y4))).toNat * 1) y2))]) fun x1 => asTup (some x1) fun x2 => PI.asInt .i64 x2[0]? fun x3 => must (inB y4 64) (must ((int .i64 x3).solid && true && (0 + y4.toNat * 1 + 1).ble
 y7.length && flatB C 217 [int .i64 x3]) (O.L 0 186 2 [true, true, true, true, false, true, false, true, false, false, true, false, true] [q0] m [(3, ptr 0 0), (4, ptr 1 0), (5, sl y1 y2), (6,
 int .i64 y3), (7, ptr 2 0), (8, int .i64 (i64.wrap (y4 + 1)))] [Ob.box 217 y5 false, Ob.box 219 y6 false, Ob.box 217 (splice y7 (0 + y4.toNat * 1) [int .i64 x3]) false])))) else O.L 0
 186 4 [true, true, true, true, false, true, false, true, false, false, true, true, false, true] [q0] k [(3, ptr 0 0), (4, ptr 1 0), (5, sl y1 y2), (6, int .i64 y3), (7, ptr 2 0), (9, int
 .i64 16)] [Ob.box 217 y5 false, Ob.box 219 y6 false, Ob.box 217 y7 false]
theorem E186l2 (y1 y2 y3 y4 y5 y6 y7) {r : V} (h : T186l2 (orcE C) 0 0 0 y1 y2 y3 y4 y5 y6 y7 = some r) : loopE C 186 2 [true, true,
 true, true, false, true, false, true, false, false, true, false, true] [0] [(3, ptr 0 0), (4, ptr 1 0), (5, sl y1 y2), (6, int .i64 y3), (7, ptr 2 0), (8, int .i64 y4)] [Ob.box 217 y5
 false, Ob.box 219 y6 false, Ob.box 217 y7 false] = some r := ofL (j := 0) (F := fun s => T186l2 (orc C s.k) s.k s.m (s.fs.getD 0 0) y1 y2 y3 y4 y5 y6 y7) (fs1 fun _ _ _ => by kernel_rfl) (by
  unfold T186l2
  repeat' first | (with_reducible first | intro _ | exact cC | apply cN cR | apply cT | apply cI | apply cM | apply cF | apply cN cC | exact cR) | exact cD1 gK (gF (i := 0) (by decide)) | exact cD1 gM (gF (i := 0) (by decide))) h
def T186l3 (O : Orc) (k m : Nat) (y1 : Int) (y2 : List V) (y3 : Nat) (y4 : List V) : Option V := bif decide (y1 < 8) then O.L 0 186 12 [true, true, true, true, true, true, false,
 true, false, true, false, false, true] [m] k [(4, ptr 0 0), (17, ref 1), (18, int .i64 y1), (19, int .i64 3)] [Ob.box 219 y2 false, Ob.row 5 y3 y4 false] else must (false || y4.all flatV)
 (some (tup [osl y3 y4]))
theorem E186l3 (y1 y2 y3 y4) {r : V} (h : T186l3 (orcE C) 0 0 y1 y2 y3 y4 = some r) : loopE C 186 10 [true, true, true, true, true, true, false, true] [] [(4,
 ptr 0 0), (17, ref 1), (18, int .i64 y1)] [Ob.box 219 y2 false, Ob.row 5 y3 y4 false] = some r := ofL (j := 0) (F := fun s => T186l3 (orc C s.k) s.k s.m y1 y2 y3 y4) (fs0 fun _ _ => by
 kernel_rfl) (by
  unfold T186l3
  repeat' first | (with_reducible first | intro _ | exact cC | apply cM | apply cF) | exact cD1 gK gM) h
def T218 (O : Orc) (y1 : Nat) (y2 : List V) (y3 : Int) : Option V := bif (↑y1 : Int) == 1 then some (tup [osl 0 []]) else need (O.R 0 140 [int .i64 (↑y1 : Int)])
 fun x1 => asTup (some x1) fun x2 => PI.asInt .i64 x2[0]? fun x3 => bif decide (y3 < x3) then must (decide (0 ≤ x3) && decide (x3 ≤ (↑y1 : Int))) (must (decide (0 ≤ x3) && decide (x3 ≤ (↑y1 : Int)))
 (need (O.R 0 218 [sl (x3.toNat - 0) (List.take ((x3.toNat - 0) * 1) (List.drop 0 y2)), int .i64 y3]) fun x4 => asTup (some x4) fun x5 => asOsl x5[0]? fun x6 x7 => need (O.R 0 68 [sl (y1 -
 x3.toNat) (List.take ((y1 - x3.toNat) * 1) (List.drop (x3.toNat * 1) y2))]) fun x8 => asTup (some x8) fun x9 => asOsl x9[0]? fun x10 x11 => must (x11.all flatV) (must (true && (x6 + 1).ble
 140737488355328 && ((x6 + 1) * 24).ble 140737488355328) (some (tup [osl (x6 + 1) (x7 ++ [own false 5 1 x10 x11])]))))) else must (decide (0 ≤ x3) && decide (x3 ≤ (↑y1 : Int))) (must (decide (0 ≤
 x3) && decide (x3 ≤ (↑y1 : Int))) (need (O.R 0 218 [sl (y1 - x3.toNat) (List.take ((y1 - x3.toNat) * 1) (List.drop (x3.toNat * 1) y2)), int .i64 (i64.wrap (y3 - x3))]) fun x12 => asTup
 (some x12) fun x13 => asOsl x13[0]? fun x14 x15 => need (O.R 0 68 [sl (x3.toNat - 0) (List.take ((x3.toNat - 0) * 1) (List.drop 0 y2))]) fun x16 => asTup (some x16) fun x17 => asOsl x17[0]? fun x18
 x19 => must (x19.all flatV) (must (true && (x14 + 1).ble 140737488355328 && ((x14 + 1) * 24).ble 140737488355328) (some (tup [osl (x14 + 1) (x15 ++ [own false 5 1 x18 x19])])))))
theorem E218 (y1 y2 y3) {r : V} (h : T218 (orcE C) y1 y2 y3 = some r) : runE C 218 [sl y1 y2, int .i64 y3] = some r := ofR (j := 1) (F := fun s => T218 (orc C s.k) y1 y2 y3) (fun _ => by kernel_rfl) (by
  unfold T218
  repeat' first | (with_reducible first | intro _ | exact cC | apply cN cR | apply cT | apply cI | apply cM | apply cF | apply cO | apply cN cC | exact cR)) h
def T188l1 (O : Orc) (k m : Nat) (y1 y2 : Int) (y3 : Nat) (y4 : List V) (y5 : Nat) (y6 : List V) : Option V := bif decide (y2 < 4) then O.L 0 188 2 [true, true, true, true,
 false, true, false, true, false, false, true] [m] k [(3, ref 0), (4, ref 1), (5, int .i64 y1), (6, int .i64 y2), (7, int .i64 3)] [Ob.row 5 y3 y4 false, Ob.row 2 y5 y6 false] else must (true
 && (y5 + 3).ble 140737488355328 && ((y5 + 3) * 8).ble 140737488355328) (must (false || (y6 ++ [int .i64 (i64.wrap (y1.tdiv 16)), int .i64 ((i64.wrap (y1.tdiv 4)).tmod 4), int
 .i64 (y1.tmod 4)]).all flatV) (some (tup [osl (y5 + 3) (y6 ++ [int .i64 (i64.wrap (y1.tdiv 16)), int .i64 ((i64.wrap (y1.tdiv 4)).tmod 4), int .i64 (y1.tmod 4)])])))
theorem E188l1 (y1 y2 y3 y4 y5 y6) {r : V} (h : T188l1 (orcE C) 0 0 y1 y2 y3 y4 y5 y6 = some r) : loopE C 188 0 [true, true, true, true, false,
 true] [] [(3, ref 0), (4, ref 1), (5, int .i64 y1), (6, int .i64 y2)] [Ob.row 5 y3 y4 false, Ob.row 2 y5 y6 false] = some r := ofL (j := 0) (F := fun s => T188l1 (orc C s.k) s.k s.m y1 y2
 y3 y4 y5 y6) (fs0 fun _ _ => by kernel_rfl) (by
  unfold T188l1
  repeat' first | (with_reducible first | intro _ | exact cC | apply cM | apply cF) | exact cD1 gK gM) h
def T190 (O : Orc) (y1 : Nat) (y2 : List V) (y3 y4 : Int) : Option V := must (decide (y2.length = y1 * 1)) (must (true && (0 + y1).ble 140737488355328 && ((0 +
 y1) * 1).ble 140737488355328) (must (true && (0 + y1 + 2).ble 140737488355328 && ((0 + y1 + 2) * 1).ble 140737488355328) (need (O.R 0 138 [str { data := #[(107 : UInt8), (101 : UInt8), (121 :
 UInt8)] }, sl (0 + y1 + 2) (y2 ++ [int .u8 (u8.wrap y3), int .u8 (u8.wrap y4)])]) fun x1 => asTup (some x1) fun x2 => asOsl x2[0]? fun x3 x4 => must (false || x4.all flatV) (some
 (tup [osl x3 x4])))))
theorem E190 (y1 y2 y3 y4) {r : V} (h : T190 (orcE C) y1 y2 y3 y4 = some r) : runE C 190 [sl y1 y2, int .i64 y3, int .i64 y4] = some r := ofR (j := 1) (F
 := fun s => T190 (orc C s.k) y1 y2 y3 y4) (fun _ => by kernel_rfl) (by
  unfold T190
  repeat' first | (with_reducible first | intro _ | exact cC | apply cN cR | apply cT | apply cM | apply cO | apply cN cC | exact cR)) h
def T189 (O : Orc) (k : Nat) (y1 : Nat) (y2 : List V) (y3 : Int) : Option V := O.L 0 189 0 [true, false] [] k [(0, sl y1 y2), (1, int .i64 y3)] []
theorem E189 (y1 y2 y3) {r : V} (h : T189 (orcE C) 0 y1 y2 y3 = some r) : runE C 189 [sl y1 y2, int .i64 y3] = some r := ofR (j := 1) (F := fun s => T189 (orc C s.k) s.k y1 y2 y3) (fun _ => by kernel_rfl) (by
  unfold T189
  repeat' first | with_reducible exact cC | exact cD0 gK) h
def T167s2 (O : Orc) (k : Nat) (y1 : Nat) (y2 : List V) : Option V := O.L 0 167 0 [true, false, true] [] k [(0, sl y1 y2), (1, fn 181 []), (7, int .i64 (↑y1 : Int)), (8,
 int .i64 0)] []
theorem E167s2 (y1 y2) {r : V} (h : T167s2 (orcE C) 0 y1 y2 = some r) : runE C 167 [sl y1 y2, fn 181 []] = some r := ofR (j := 1) (F := fun s => T167s2 (orc C s.k) s.k y1 y2) (fun _ => by kernel_rfl) (by
  unfold T167s2
  repeat' first | with_reducible exact cC | exact cD0 gK) h
def T200 (O : Orc) (k : Nat) (y1 : Nat) (y2 : List V) (y3 : Nat) (y4 : List V) : Option V := O.L 0 200 0 [true, false, true] [] k [(0, sl y1 y2), (1, fn 201 [pin [sl y3
 y4] 0]), (7, int .i64 (↑y1 : Int)), (8, int .i64 0)] []
theorem E200 (y1 y2 y3 y4) {r : V} (h : T200 (orcE C) 0 y1 y2 y3 y4 = some r) : runE C 200 [sl y1 y2, fn 201 [pin [sl y3 y4] 0]] = some r := ofR (j :=
 1) (F := fun s => T200 (orc C s.k) s.k y1 y2 y3 y4) (fun _ => by kernel_rfl) (by
  unfold T200
  repeat' first | with_reducible exact cC | exact cD0 gK) h
def T105 (O : Orc) (y1 : Nat) (y2 : List V) : Option V := bif decide ((↑y1 : Int) > 0) then need (O.R 0 106 [sl y1 y2]) fun x1 => asTup (some x1) fun x2 => PI.asBool
 x2[0]? fun x3 => some (tup [bool !x3]) else some (tup [bool false])
theorem E105 (y1 y2) {r : V} (h : T105 (orcE C) y1 y2 = some r) : runE C 105 [sl y1 y2] = some r := ofR (j := 1) (F := fun s => T105 (orc C s.k) y1 y2) (fun _ =>
 by kernel_rfl) (by
  unfold T105
  repeat' first | (with_reducible first | intro _ | exact cC | apply cN cR | apply cT | apply cF | apply cB | apply cN cC | exact cR)) h
def T183l1 (O : Orc) (m : Nat) (y1 : Nat) (y2 : List V) (y3 y4 : Int) (y5 : Nat) (y6 : List V) : Option V := bif decide (y4 < y3) then must (inB y4 y1) (must (decide
 (y4.toNat * 1 < y2.length)) (asSl y2[y4.toNat * 1]? fun x1 x2 => bif decide ((↑x1 : Int) > 200) then some (tup [sl 0 [], bool false]) else asSl y2[y4.toNat * 1]? fun x3 x4 => bif decide
 (i64.wrap (i64.wrap ((↑y5 : Int) + 1) + (↑x3 : Int)) > 4000) then some (tup [sl 0 [], bool false]) else asSl y2[y4.toNat * 1]? fun x5 x6 => must (true && (y5 + 1).ble
 140737488355328 && ((y5 + 1) * 1).ble 140737488355328) (asSl y2[y4.toNat * 1]? fun x7 x8 => must (decide (x8.length = x7 * 1)) (must (true && (y5 + 1 + x7).ble 140737488355328 && ((y5 + 1 + x7) *
 1).ble 140737488355328) (O.L 0 183 0 [true, true, true, false, true] [] m [(4, ref 0), (11, sl y1 y2), (12, int .i64 y3), (13, int .i64 (i64.wrap (y4 + 1)))] [Ob.row 5 (y5 + 1 + x7)
 (y6 ++ [int .u8 (u8.wrap (↑x5 : Int))] ++ x8) false]))))) else some (tup [sl y5 y6, bool true])
theorem E183l1 (y1 y2 y3 y4 y5 y6) {r : V} (h : T183l1 (orcE C) 0 y1 y2 y3 y4 y5 y6 = some r) : loopE C 183 0 [true, true, true, false, true]
 [] [(4, ref 0), (11, sl y1 y2), (12, int .i64 y3), (13, int .i64 y4)] [Ob.row 5 y5 y6 false] = some r := ofL (j := 0) (F := fun s => T183l1 (orc C s.k) s.m y1 y2 y3 y4 y5 y6) (fs0 fun
 _ _ => by kernel_rfl) (by
  unfold T183l1
  repeat' first | (with_reducible first | intro _ | exact cC | apply cM | apply cF | apply cL) | exact cD0 gM) h
def T130l1 (O : Orc) (k m : Nat) (y1 : Nat) (y2 : List V) (y3 y4 : Int) (y5 : Nat) (y6 : List V) : Option V := bif decide (y4 < y3) then must (inB y4 y1) (must (decide
 (y4.toNat * 1 < y2.length)) (asSl y2[y4.toNat * 1]? fun x1 x2 => must (decide (x2.length = x1 * 1)) (must (true && (y5 + x1).ble 140737488355328 && ((y5 + x1) * 1).ble 140737488355328) (O.L 0 130 0
 [true, true, false, true] [] m [(3, ref 0), (13, sl y1 y2), (14, int .i64 y3), (15, int .i64 (i64.wrap (y4 + 1)))] [Ob.row 5 (y5 + x1) (y6 ++ x2) false])))) else must (true && (y5 +
 1).ble 140737488355328 && ((y5 + 1) * 1).ble 140737488355328) (O.L 0 130 2 [true, true, true, true, true, false] [] k [(3, ref 0), (6, int .u64 (u64.wrap (u64.wrap (↑y5 : Int) *
 8)))] [Ob.row 5 (y5 + 1) (y6 ++ [int .u8 128]) false])
theorem E130l1 (y1 y2 y3 y4 y5 y6) {r : V} (h : T130l1 (orcE C) 0 0 y1 y2 y3 y4 y5 y6 = some r) : loopE C 130 0 [true, true, false, true] [] [(3,
 ref 0), (13, sl y1 y2), (14, int .i64 y3), (15, int .i64 y4)] [Ob.row 5 y5 y6 false] = some r := ofL (j := 0) (F := fun s => T130l1 (orc C s.k) s.k s.m y1 y2 y3 y4 y5 y6) (fs0 fun _ _ =>
 by kernel_rfl) (by
  unfold T130l1
  repeat' first | (with_reducible first | intro _ | exact cC | apply cM | apply cF | apply cL) | exact cD0 gK | exact cD0 gM) h
def T221 (O : Orc) (k : Nat) (y1 y2 : Int) (y3 : Nat) (y4 : List V) : Option V := need (O.R 0 230 [int .i64 y2, int .i64 y1]) fun x1 => asTup (some x1) fun x2 =>
 PI.asInt .i64 x2[0]? fun x3 => PI.asInt .i64 x2[1]? fun x4 => bif x3 != 0 then some (tup [bool false]) else bif (↑y3 : Int) != x4 then some (tup [bool false]) else O.L 0 221 0 [true, true,
 true, false, true] [] k [(1, ptr 0 0), (4, int .i64 0)] [Ob.box 66 [int .i64 y1, int .i64 y2, sl y3 y4] false]
theorem E221 (y1 y2 y3 y4) {r : V} (h : T221 (orcE C) 0 y1 y2 y3 y4 = some r) : runE C 221 [agg [int .i64 y1, int .i64 y2, sl y3 y4]] = some r := ofR (j
 := 1) (F := fun s => T221 (orc C s.k) s.k y1 y2 y3 y4) (fun _ => by kernel_rfl) (by
  unfold T221
  repeat' first | (with_reducible first | intro _ | exact cC | apply cN cR | apply cT | apply cI | apply cF | apply cN cC | exact cR) | exact cD0 gK) h
def T195 (O : Orc) (k : Nat) (y1 : Nat) (y2 : List V) (y3 : Nat) (y4 : List V) (y5 y6 : Int) (y7 : Nat) (y8 : List V) : Option V := need (O.R 0 221 [agg [int .i64 y5,
 int .i64 y6, sl y7 y8]]) fun x1 => asTup (some x1) fun x2 => PI.asBool x2[0]? fun x3 => bif !x3 then some (tup [bool false]) else need (O.R 0 139 [sl y3 y4]) fun x4 => asTup (some x4) fun x5
 => asOsl x5[0]? fun x6 x7 => need (O.R 0 222 [int .i64 y6, int .i64 y5]) fun x8 => asTup (some x8) fun x9 => asOsl x9[0]? fun x10 x11 => O.L 0 195 0 [true, true, true, true, false, true] [] k [(0,
 sl y1 y2), (5, ptr 0 0), (7, ref 1), (8, ref 2), (9, int .i64 0)] [Ob.box 66 [int .i64 y5, int .i64 y6, sl y7 y8] false, Ob.row 5 x6 x7 false, Ob.row 4 x10 x11 false]
theorem E195 (y1 y2 y3 y4 y5 y6 y7 y8) {r : V} (h : T195 (orcE C) 0 y1 y2 y3 y4 y5 y6 y7 y8 = some r) : runE C 195 [sl y1
 y2, sl y3 y4, agg [int .i64 y5, int .i64 y6, sl y7 y8]] = some r := ofR (j := 1) (F := fun s => T195 (orc C s.k) s.k y1 y2 y3 y4 y5 y6 y7 y8) (fun _ => by kernel_rfl) (by
  unfold T195
  repeat' first | (with_reducible first | intro _ | exact cC | apply cN cR | apply cT | apply cF | apply cB | apply cO | apply cN cC | exact cR) | exact cD0 gK) h
def T219 (O : Orc) (y1 : Int) : Option V := need (O.R 0 51 [int .i64 y1, int .i64 0, int .i64 3]) fun x1 => asTup (some x1) fun x2 => PI.asBool x2[0]? fun x3 =>
 some (tup [bool x3])
theorem E219 (y1) {r : V} (h : T219 (orcE C) y1 = some r) : runE C 219 [int .i64 y1] = some r := ofR (j := 1) (F := fun s => T219 (orc C s.k) y1) (fun _ => by kernel_rfl) (by
  unfold T219
  repeat' first | (with_reducible first | intro _ | exact cC | apply cN cR | apply cT | apply cB | apply cN cC | exact cR)) h
def T192l1 (O : Orc) (k m : Nat) (y1 : Int) (y2 : Nat) (y3 : List V) (y4 y5 : Int) (y6 : Nat) (y7 : List V) : Option V := bif decide (y5 < y4) then must (inB y5 y2)
 (PI.asInt .u8 y3[y5.toNat * 1]? fun x1 => O.L 0 192 2 [true, true, false, true, false, true, true, false, false, true, true] [m] k [(3, ref 0), (4, int .i64 y1), (6, int .u8 x1), (7, int .i64
 6), (13, sl y2 y3), (14, int .i64 y4), (15, int .i64 y5)] [Ob.row 2 y6 y7 false]) else must (true && (y6 + 3).ble 140737488355328 && ((y6 + 3) * 8).ble 140737488355328) (must (false || (y7 ++
 [int .i64 (i64.wrap (y1.tdiv 16)), int .i64 ((i64.wrap (y1.tdiv 4)).tmod 4), int .i64 (y1.tmod 4)]).all flatV) (some (tup [osl (y6 + 3) (y7 ++ [int .i64 (i64.wrap
 (y1.tdiv 16)), int .i64 ((i64.wrap (y1.tdiv 4)).tmod 4), int .i64 (y1.tmod 4)])])))
theorem E192l1 (y1 y2 y3 y4 y5 y6 y7) {r : V} (h : T192l1 (orcE C) 0 0 y1 y2 y3 y4 y5 y6 y7 = some r) : loopE C 192 0 [true, true, false,
 true] [] [(3, ref 0), (4, int .i64 y1), (13, sl y2 y3), (14, int .i64 y4), (15, int .i64 y5)] [Ob.row 2 y6 y7 false] = some r := ofL (j := 0) (F := fun s => T192l1 (orc C s.k) s.k s.m y1
 y2 y3 y4 y5 y6 y7) (fs0 fun _ _ => by kernel_rfl) (by
  unfold T192l1
  repeat' first | (with_reducible first | intro _ | exact cC | apply cI | apply cM | apply cF) | exact cD1 gK gM) h
def T193 (O : Orc) (k : Nat) (y1 : Nat) (y2 : List V) (y3 : Int) : Option V := need (O.R 0 220 [sl y1 y2]) fun x1 => asTup (some x1) fun x2 => asOsl x2[0]? fun x3 x4 => O.L 0
 193 0 [true, true, false, true] [] k [(0, ref 0), (7, int .i64 y3), (8, int .i64 0)] [Ob.row 5 x3 x4 false]
theorem E193 (y1 y2 y3) {r : V} (h : T193 (orcE C) 0 y1 y2 y3 = some r) : runE C 193 [sl y1 y2, int .i64 y3] = some r := ofR (j := 1) (F := fun s => T193 (orc C s.k) s.k y1 y2 y3) (fun _ => by kernel_rfl) (by
  unfold T193
  repeat' first | (with_reducible first | intro _ | exact cC | apply cN cR | apply cT | apply cO | apply cN cC | exact cR) | exact cD0 gK) h
def T224l1 (O : Orc) (m : Nat) (y1 y2 : Int) : Option V := bif decide (i64.wrap (2 * y2) < y1) then O.L 0 224 0 [true, true, false] [] m [(0, int .i64 y1), (3,
 int .i64 (i64.wrap (y2 * 2)))] [] else some (tup [int .i64 y2])
theorem E224l1 (y1 y2) {r : V} (h : T224l1 (orcE C) 0 y1 y2 = some r) : loopE C 224 0 [true, true, false] [] [(0, int .i64 y1), (3, int .i64 y2)] [] = some r := ofL (j := 0) (F
 := fun s => T224l1 (orc C s.k) s.m y1 y2) (fs0 fun _ _ => by kernel_rfl) (by
  unfold T224l1
  repeat' first | (with_reducible first | intro _ | exact cC | apply cF) | exact cD0 gM) h
def T185l1 (O : Orc) (m : Nat) (y1 : Nat) (y2 : List V) (y3 y4 : Int) (y5 : Nat) (y6 : List V) : Option V := bif decide (y4 < 19) then need (O.R 0 190 [sl y1 y2, int
 .i64 y3, int .i64 y4]) fun x1 => asTup (some x1) fun x2 => asOsl x2[0]? fun x3 x4 => need (O.R 0 189 [sl x3 x4, int .i64 3]) fun x5 => asTup (some x5) fun x6 => asOsl x6[0]? fun x7 x8 => must
 (decide (x8.length = x7 * 1)) (must (true && (y5 + x7).ble 140737488355328 && ((y5 + x7) * 1).ble 140737488355328) (O.L 0 185 0 [true, true, false, true] [] m [(0, sl y1 y2), (1, int .i64 y3), (5,
 ref 0), (6, int .i64 (i64.wrap (y4 + 1)))] [Ob.row 5 (y5 + x7) (y6 ++ x8) false])) else must (false || y6.all flatV) (some (tup [osl y5 y6]))
theorem E185l1 (y1 y2 y3 y4 y5 y6) {r : V} (h : T185l1 (orcE C) 0 y1 y2 y3 y4 y5 y6 = some r) : loopE C 185 0 [true, true, false, true] [] [(0,
 sl y1 y2), (1, int .i64 y3), (5, ref 0), (6, int .i64 y4)] [Ob.row 5 y5 y6 false] = some r := ofL (j := 0) (F := fun s => T185l1 (orc C s.k) s.m y1 y2 y3 y4 y5 y6) (fs0 fun _ _ => by
 kernel_rfl) (by
  unfold T185l1
  repeat' first | (with_reducible first | intro _ | exact cC | apply cN cR | apply cT | apply cM | apply cF | apply cO | apply cN cC | exact cR) | exact cD0 gM) h
def T214l2 (O : Orc) (m : Nat) (y1 y2 : Int) (y3 : Nat) (y4 : List V) : Option V := bif decide (y2 ≥ 0) then must (decide (0 ≤ u64.wrap (i64.wrap (8 *
 y2)))) (must (true && (y3 + 1).ble 140737488355328 && ((y3 + 1) * 1).ble 140737488355328) (O.L 0 214 2 [true, true, true, true, false, true] [] m [(3, ref 0), (4, int .i64 y1), (5, int .i64
 (i64.wrap (y2 - 1)))] [Ob.row 5 (y3 + 1) (y4 ++ [int .u8 (u8.wrap (y1.fdiv (2 ^ min (u64.wrap (i64.wrap (8 * y2))).toNat 64)))]) false])) else some (tup [sl y3
 y4])
theorem E214l2 (y1 y2 y3 y4) {r : V} (h : T214l2 (orcE C) 0 y1 y2 y3 y4 = some r) : loopE C 214 2 [true, true, true, true, false, true] [] [(3, ref 0), (4,
 int .i64 y1), (5, int .i64 y2)] [Ob.row 5 y3 y4 false] = some r := ofL (j := 0) (F := fun s => T214l2 (orc C s.k) s.m y1 y2 y3 y4) (fs0 fun _ _ => by kernel_rfl) (by
  unfold T214l2
  repeat' first | (with_reducible first | intro _ | exact cC | apply cM | apply cF) | exact cD0 gM) h
def T215 (O : Orc) (k : Nat) (y1 : Nat) (y2 : List V) : Option V := O.L 0 215 0 [true, true, false, true] [] k [(0, sl y1 y2), (3, int .i64 0), (4, int .i64 0)] []
theorem E215 (y1 y2) {r : V} (h : T215 (orcE C) 0 y1 y2 = some r) : runE C 215 [sl y1 y2] = some r := ofR (j := 1) (F := fun s => T215 (orc C s.k) s.k y1 y2) (fun _ =>
 by kernel_rfl) (by
  unfold T215
  repeat' first | with_reducible exact cC | exact cD0 gK) h
def T186l4 (O : Orc) (k m q0 : Nat) (y1 : Nat) (y2 : List V) (y3 y4 : Int) (y5 y6 y7 : List V) : Option V := bif decide (y4 < 64) then must (inB
 (i64.wrap (y4 - 15)) 64) (PI.asInt .i64 y7[0 + (i64.wrap (y4 - 15)).toNat * 1]? fun x1 => must (inB (i64.wrap (y4 - 2)) 64) (PI.asInt .i64 y7[0 + (i64.wrap (y4 -
 2)).toNat * 1]? fun x2 => need (O.R 0 216 [int .i64 x1, int .u64 7]) fun x3 => asTup (some x3) fun x4 => PI.asInt .i64 x4[0]? fun x5 => need (O.R 0 216 [int .i64 x1, int .u64 18]) fun x6 =>
 asTup (some x6) fun x7 => PI.asInt .i64 x7[0]? fun x8 => need (O.R 0 216 [int .i64 x2, int .u64 17]) fun x9 => asTup (some x9) fun x10 => PI.asInt .i64 x10[0]? fun x11 => need (O.R 0 216 [int
 .i64 x2, int .u64 19]) fun x12 => asTup (some x12) fun x13 => PI.asInt .i64 x13[0]? fun x14 => must (inB (i64.wrap (y4 - 7)) 64) (PI.asInt .i64 y7[0 + (i64.wrap (y4 - 7)).toNat * 1]?
 fun x15 => must (inB (i64.wrap (y4 - 16)) 64) (PI.asInt .i64 y7[0 + (i64.wrap (y4 - 16)).toNat * 1]? fun x16 => must (inB y4 64) (must ((int .i64 ((i64.wrap (i64.wrap
 (i64.wrap (PI.bits i64 (fun x1 x2 => x1 ^^^ x2) (PI.bits i64 (fun x1 x2 => x1 ^^^ x2) x11 x14) (x2.fdiv 1024) + x15) + PI.bits i64 (fun x1 x2 => x1 ^^^ x2) (PI.bits
 i64 (fun x1 x2 => x1 ^^^ x2) x5 x8) (x1.fdiv 8)) + x16)).tmod 4294967296)).solid && true && (0 + y4.toNat * 1 + 1).ble y7.length && flatB C 217 [int .i64 ((i64.wrap (i64.wrap
 (i64.wrap (PI.bits i64 (fun x1 x2 => x1 ^^^ x2) (PI.bits i64 (fun x1 x2 => x1 ^^^ x2) x11 x14) (x2.fdiv 1024) + x15) + PI.bits i64 (fun x1 x2 => x1 ^^^ x2) (PI.bits
 i64 (fun x1 x2 => x1 ^^^ x2) x5 x8) (x1.fdiv 8)) + x16)).tmod 4294967296)]) (O.L 0 186 4 [true, true, true, true, false, true, false, true, false, false, true, true, false, true] [q0] m [(3,
 ptr 0 0), (4, ptr 1 0), (5, sl y1 y2), (6, int .i64 y3), (7, ptr 2 0), (9, int .i64 (i64.wrap (y4 + 1)))] [Ob.box 217 y5 false, Ob.box 219 y6 false, Ob.box 217 (splice y7 (0 +
 y4.toNat * 1) [int .i64 ((i64.wrap (i64.wrap (i64.wrap (PI.bits i64 (fun x1 x2 => x1 ^^^ x2) (PI.bits i64 (fun x1 x2 => x1 ^^^ x2) x11 x14) (x2.fdiv 1024) +
 x15) + PI.bits i64 (fun x1 x2 => x1 ^^^ x2) (PI.bits i64 (fun x1 x2 => x1 ^^^ x2) x5 x8) (x1.fdiv 8)) + x16)).tmod 4294967296)]) false])))))) else PI.asInt .i64 y6[0]? fun x17 =>
 PI.asInt .i64 y6[1]? fun x18 => PI.asInt .i64 y6[2]? fun x19 => PI.asInt .i64 y6[3]? fun x20 => PI.asInt .i64 y6[4]? fun x21 => PI.asInt .i64 y6[5]? fun x22 => PI.asInt .i64 y6[6]? fun x23 => PI.asInt
 .i64 y6[7]? fun x24 => O.L 0 186 6 [true, true, true, true, false, true, false, true, false, false, true, true, true, true, false, true] [q0] k [(3, ptr 0 0), (4, ptr 1 0), (5, sl y1 y2), (6,
 int .i64 y3), (7, ptr 2 0), (14, ptr 3 0), (15, int .i64 0)] [Ob.box 217 y5 false, Ob.box 219 y6 false, Ob.box 217 y7 false, Ob.box 219 [int .i64 x17, int .i64 x18, int .i64 x19, int
 .i64 x20, int .i64 x21, int .i64 x22, int .i64 x23, int .i64 x24] false]
theorem E186l4 (y1 y2 y3 y4 y5 y6 y7) {r : V} (h : T186l4 (orcE C) 0 0 0 y1 y2 y3 y4 y5 y6 y7 = some r) : loopE C 186 4 [true, true,
 true, true, false, true, false, true, false, false, true, true, false, true] [0] [(3, ptr 0 0), (4, ptr 1 0), (5, sl y1 y2), (6, int .i64 y3), (7, ptr 2 0), (9, int .i64 y4)] [Ob.box 217
 y5 false, Ob.box 219 y6 false, Ob.box 217 y7 false] = some r := ofL (j := 0) (F := fun s => T186l4 (orc C s.k) s.k s.m (s.fs.getD 0 0) y1 y2 y3 y4 y5 y6 y7) (fs1 fun _ _ _ => by kernel_rfl) (by
  unfold T186l4
  repeat' first | (with_reducible first | intro _ | exact cC | apply cN cR | apply cT | apply cI | apply cM | apply cF | apply cN cC | exact cR) | exact cD1 gK (gF (i := 0) (by decide)) | exact cD1 gM (gF (i := 0) (by decide))) h
def T186l5 (O : Orc) (m q0 : Nat) (y1 y2 : Int) (y3 : List V) (y4 : Nat) (y5 : List V) : Option V := bif decide (y2 ≥ 0) then must (inB y1 8) (PI.asInt .i64 y3[0 + y1.toNat *
 1]? fun x1 => must (decide (0 ≤ u64.wrap (i64.wrap (8 * y2)))) (must (true && (y4 + 1).ble 140737488355328 && ((y4 + 1) * 1).ble 140737488355328) (O.L 0 186 12 [true, true, true, true,
 true, true, false, true, false, true, false, false, true] [q0] m [(4, ptr 0 0), (17, ref 1), (18, int .i64 y1), (19, int .i64 (i64.wrap (y2 - 1)))] [Ob.box 219 y3 false, Ob.row 5 (y4 +
 1) (y5 ++ [int .u8 (u8.wrap (x1.fdiv (2 ^ min (u64.wrap (i64.wrap (8 * y2))).toNat 64)))]) false]))) else O.L 0 186 10 [true, true, true, true, true, true, false, true] [] q0
 [(4, ptr 0 0), (17, ref 1), (18, int .i64 (i64.wrap (y1 + 1)))] [Ob.box 219 y3 false, Ob.row 5 y4 y5 false]
theorem E186l5 (y1 y2 y3 y4 y5) {r : V} (h : T186l5 (orcE C) 0 0 y1 y2 y3 y4 y5 = some r) : loopE C 186 12 [true, true, true, true, true, true, false,
 true, false, true, false, false, true] [0] [(4, ptr 0 0), (17, ref 1), (18, int .i64 y1), (19, int .i64 y2)] [Ob.box 219 y3 false, Ob.row 5 y4 y5 false] = some r := ofL (j := 0) (F := fun s =>
 T186l5 (orc C s.k) s.m (s.fs.getD 0 0) y1 y2 y3 y4 y5) (fs1 fun _ _ _ => by kernel_rfl) (by
  unfold T186l5
  repeat' first | (with_reducible first | intro _ | exact cC | apply cI | apply cM | apply cF) | exact cD0 (gF (i := 0) (by decide)) | exact cD1 gM (gF (i := 0) (by decide))) h
def T188l2 (O : Orc) (m q0 : Nat) (y1 y2 y3 : Int) (y4 : Nat) (y5 : List V) (y6 : Nat) (y7 : List V) : Option V := bif decide (y3 ≥ 0) then must (inB y2 y4) (PI.asInt
 .u8 y5[y2.toNat * 1]? fun x1 => must (decide (0 ≤ u64.wrap (i64.wrap (2 * y3)))) (must (true && (y6 + 1).ble 140737488355328 && ((y6 + 1) * 8).ble 140737488355328) (O.L 0 188 2 [true,
 true, true, true, false, true, false, true, false, false, true] [q0] m [(3, ref 0), (4, ref 1), (5, int .i64 (i64.wrap (i64.wrap (y1 + 3) - i64.wrap (PI.bits u8
 (fun x1 x2 => x1 &&& x2) (x1.fdiv (2 ^ min (u64.wrap (i64.wrap (2 * y3))).toNat 8)) 3)))), (6, int .i64 y2), (7, int .i64 (i64.wrap (y3 - 1)))] [Ob.row 5 y4 y5 false,
 Ob.row 2 (y6 + 1) (y7 ++ [int .i64 (i64.wrap (PI.bits u8 (fun x1 x2 => x1 &&& x2) (x1.fdiv (2 ^ min (u64.wrap (i64.wrap (2 * y3))).toNat 8)) 3))]) false]))) else O.L
 0 188 0 [true, true, true, true, false, true] [] q0 [(3, ref 0), (4, ref 1), (5, int .i64 y1), (6, int .i64 (i64.wrap (y2 + 1)))] [Ob.row 5 y4 y5 false, Ob.row 2 y6 y7 false]
theorem E188l2 (y1 y2 y3 y4 y5 y6 y7) {r : V} (h : T188l2 (orcE C) 0 0 y1 y2 y3 y4 y5 y6 y7 = some r) : loopE C 188 2 [true, true, true,
 true, false, true, false, true, false, false, true] [0] [(3, ref 0), (4, ref 1), (5, int .i64 y1), (6, int .i64 y2), (7, int .i64 y3)] [Ob.row 5 y4 y5 false, Ob.row 2 y6 y7 false] = some r
 := ofL (j := 0) (F := fun s => T188l2 (orc C s.k) s.m (s.fs.getD 0 0) y1 y2 y3 y4 y5 y6 y7) (fs1 fun _ _ _ => by kernel_rfl) (by
  unfold T188l2
  repeat' first | (with_reducible first | intro _ | exact cC | apply cI | apply cM | apply cF) | exact cD0 (gF (i := 0) (by decide)) | exact cD1 gM (gF (i := 0) (by decide))) h
def T189l1 (O : Orc) (m : Nat) (y1 : Nat) (y2 : List V) (y3 : Int) : Option V := bif decide (y3 > 0) then need (O.R 0 138 [str { data := #[(115 : UInt8), (116 : UInt8), (101 :
 UInt8), (112 : UInt8)] }, sl y1 y2]) fun x1 => asTup (some x1) fun x2 => asOsl x2[0]? fun x3 x4 => O.L 0 189 0 [true, false] [] m [(0, ref 0), (1, int .i64 (i64.wrap (y3 - 1)))] [Ob.row
 5 x3 x4 false] else must (decide (y2.length = y1 * 1)) (must (true && (0 + y1).ble 140737488355328 && ((0 + y1) * 1).ble 140737488355328) (must (false || y2.all flatV) (some (tup [osl (0 + y1)
 y2]))))
theorem E189l1 (y1 y2 y3) {r : V} (h : T189l1 (orcE C) 0 y1 y2 y3 = some r) : loopE C 189 0 [true, false] [] [(0, sl y1 y2), (1, int .i64 y3)] [] = some r := ofL (j
 := 0) (F := fun s => T189l1 (orc C s.k) s.m y1 y2 y3) (fs0 fun _ _ => by kernel_rfl) (by
  unfold T189l1
  repeat' first | (with_reducible first | intro _ | exact cC | apply cN cR | apply cT | apply cM | apply cF | apply cO | apply cN cC | exact cR) | exact cD0 gM) h
def T167l2 (O : Orc) (m : Nat) (y1 : Nat) (y2 : List V) (y3 y4 : Int) : Option V := bif decide (y4 < y3) then must (inB y4 y1) (must (decide (y4.toNat * 1 < y2.length))
 (asSl y2[y4.toNat * 1]? fun x1 x2 => need (O.R 0 181 [sl x1 x2]) fun x3 => asTup (some x3) fun x4 => PI.asBool x4[0]? fun x5 => bif x5 then some (tup [int .i64 y4]) else O.L 0 167 0 [true,
 false, true] [] m [(0, sl y1 y2), (1, fn 181 []), (7, int .i64 y3), (8, int .i64 (i64.wrap (y4 + 1)))] [])) else some (tup [int .i64 (-1)])
theorem E167l2 (y1 y2 y3 y4) {r : V} (h : T167l2 (orcE C) 0 y1 y2 y3 y4 = some r) : loopE C 167 0 [true, false, true] [] [(0, sl y1 y2), (1, fn 181 []), (7,
 int .i64 y3), (8, int .i64 y4)] [] = some r := ofL (j := 0) (F := fun s => T167l2 (orc C s.k) s.m y1 y2 y3 y4) (fs0 fun _ _ => by kernel_rfl) (by
  unfold T167l2
  repeat' first | (with_reducible first | intro _ | exact cC | apply cN cR | apply cT | apply cM | apply cF | apply cB | apply cL | apply cN cC | exact cR) | exact cD0 gM) h
def T200l1 (O : Orc) (m : Nat) (y1 : Nat) (y2 : List V) (y3 : Nat) (y4 : List V) (y5 y6 : Int) : Option V := bif decide (y6 < y5) then must (inB y6 y1) (asSl y2[y6.toNat *
 2]? fun x1 x2 => PI.asInt .i64 y2[y6.toNat * 2 + 1]? fun x3 => need (O.R 0 201 [agg [sl x1 x2, int .i64 x3], pin [sl y3 y4] 0]) fun x4 => asTup (some x4) fun x5 => PI.asBool x5[0]? fun x6 =>
 bif x6 then some (tup [int .i64 y6]) else O.L 0 200 0 [true, false, true] [] m [(0, sl y1 y2), (1, fn 201 [pin [sl y3 y4] 0]), (7, int .i64 y5), (8, int .i64 (i64.wrap (y6 +
 1)))] []) else some (tup [int .i64 (-1)])
theorem E200l1 (y1 y2 y3 y4 y5 y6) {r : V} (h : T200l1 (orcE C) 0 y1 y2 y3 y4 y5 y6 = some r) : loopE C 200 0 [true, false, true] [] [(0, sl
 y1 y2), (1, fn 201 [pin [sl y3 y4] 0]), (7, int .i64 y5), (8, int .i64 y6)] [] = some r := ofL (j := 0) (F := fun s => T200l1 (orc C s.k) s.m y1 y2 y3 y4 y5 y6) (fs0 fun _ _ => by
 kernel_rfl) (by
  unfold T200l1
  repeat' first | (with_reducible first | intro _ | exact cC | apply cN cR | apply cT | apply cI | apply cM | apply cF | apply cB | apply cL | apply cN cC | exact cR) | exact cD0 gM) h
def T130l2 (O : Orc) (k m : Nat) (y1 : Int) (y2 : Nat) (y3 : List V) : Option V := bif (↑y2 : Int).tmod 64 != 56 then must (true && (y2 + 1).ble 140737488355328 && ((y2 + 1) *
 1).ble 140737488355328) (O.L 0 130 2 [true, true, true, true, true, false] [] m [(3, ref 0), (6, int .u64 y1)] [Ob.row 5 (y2 + 1) (y3 ++ [int .u8 0]) false]) else O.L 0 130 4 [true, true, true,
 true, true, true, false, true] [] k [(3, ref 0), (6, int .u64 y1), (7, int .i64 56)] [Ob.row 5 y2 y3 false]
theorem E130l2 (y1 y2 y3) {r : V} (h : T130l2 (orcE C) 0 0 y1 y2 y3 = some r) : loopE C 130 2 [true, true, true, true, true, false] [] [(3, ref 0), (6, int .u64 y1)]
 [Ob.row 5 y2 y3 false] = some r := ofL (j := 0) (F := fun s => T130l2 (orc C s.k) s.k s.m y1 y2 y3) (fs0 fun _ _ => by kernel_rfl) (by
  unfold T130l2
  repeat' first | (with_reducible first | intro _ | exact cC | apply cM | apply cF) | exact cD0 gK | exact cD0 gM) h
def T230 (O : Orc) (y1 y2 : Int) : Option V := need (O.R 0 98 [int .i64 y1, int .i64 1, int .i64 16]) fun x1 => asTup (some x1) fun x2 => PI.asBool x2[0]?
 fun x3 => bif !x3 then some (tup [int .i64 3, int .i64 0]) else need (O.R 0 98 [int .i64 y2, int .i64 0, int .i64 (i64.wrap (y1 - 1))]) fun x4 => asTup (some x4) fun x5 =>
 PI.asBool x5[0]? fun x6 => bif !x6 then some (tup [int .i64 3, int .i64 0]) else need (O.R 0 222 [int .i64 y1, int .i64 y2]) fun x7 => asTup (some x7) fun x8 => asOsl x8[0]? fun x9 x10 =>
 some (tup [int .i64 0, int .i64 (↑x9 : Int)])
theorem E230 (y1 y2) {r : V} (h : T230 (orcE C) y1 y2 = some r) : runE C 230 [int .i64 y1, int .i64 y2] = some r := ofR (j := 1) (F := fun s => T230 (orc C s.k) y1
 y2) (fun _ => by kernel_rfl) (by
  unfold T230
  repeat' first | (with_reducible first | intro _ | exact cC | apply cN cR | apply cT | apply cF | apply cB | apply cO | apply cN cC | exact cR)) h
def T221l1 (O : Orc) (m : Nat) (y1 y2 y3 : Int) (y4 : Nat) (y5 : List V) : Option V := bif decide (y1 < (↑y4 : Int)) then must (inB y1 y4) (must (decide (y1.toNat
 * 1 < y5.length)) (asSl y5[y1.toNat * 1]? fun x1 x2 => bif (↑x1 : Int) != 32 then some (tup [bool false]) else O.L 0 221 0 [true, true, true, false, true] [] m [(1, ptr 0 0), (4, int .i64
 (i64.wrap (y1 + 1)))] [Ob.box 66 [int .i64 y2, int .i64 y3, sl y4 y5] false])) else some (tup [bool true])
theorem E221l1 (y1 y2 y3 y4 y5) {r : V} (h : T221l1 (orcE C) 0 y1 y2 y3 y4 y5 = some r) : loopE C 221 0 [true, true, true, false, true] [] [(1, ptr 0
 0), (4, int .i64 y1)] [Ob.box 66 [int .i64 y2, int .i64 y3, sl y4 y5] false] = some r := ofL (j := 0) (F := fun s => T221l1 (orc C s.k) s.m y1 y2 y3 y4 y5) (fs0 fun _ _ => by
 kernel_rfl) (by
  unfold T221l1
  repeat' first | (with_reducible first | intro _ | exact cC | apply cM | apply cF | apply cL) | exact cD0 gM) h
def T222 (O : Orc) (y1 y2 : Int) : Option V := bif decide (y1 ≤ 1) then some (tup [osl 0 []]) else need (O.R 0 140 [int .i64 y1]) fun x1 => asTup (some x1)
 fun x2 => PI.asInt .i64 x2[0]? fun x3 => bif decide (y2 < x3) then need (O.R 0 222 [int .i64 x3, int .i64 y2]) fun x4 => asTup (some x4) fun x5 => asOsl x5[0]? fun x6 x7 => must (true && (x6 +
 1).ble 140737488355328 && ((x6 + 1) * 1).ble 140737488355328) (must (false || (x7 ++ [bool true]).all flatV) (some (tup [osl (x6 + 1) (x7 ++ [bool true])]))) else need (O.R 0 222 [int .i64
 (i64.wrap (y1 - x3)), int .i64 (i64.wrap (y2 - x3))]) fun x8 => asTup (some x8) fun x9 => asOsl x9[0]? fun x10 x11 => must (true && (x10 + 1).ble 140737488355328 && ((x10 + 1) *
 1).ble 140737488355328) (must (false || (x11 ++ [bool false]).all flatV) (some (tup [osl (x10 + 1) (x11 ++ [bool false])])))
theorem E222 (y1 y2) {r : V} (h : T222 (orcE C) y1 y2 = some r) : runE C 222 [int .i64 y1, int .i64 y2] = some r := ofR (j := 1) (F := fun s => T222 (orc C s.k) y1
 y2) (fun _ => by kernel_rfl) (by
  unfold T222
  repeat' first | (with_reducible first | intro _ | exact cC | apply cN cR | apply cT | apply cI | apply cM | apply cF | apply cO | apply cN cC | exact cR)) h
def T195l1 (O : Orc) (m : Nat) (y1 : Nat) (y2 : List V) (y3 y4 y5 : Int) (y6 : Nat) (y7 : List V) (y8 : Nat) (y9 : List V) (y10 : Nat) (y11 : List V) : Option V :=
 bif decide (y3 < (↑y10 : Int)) then must (inB y3 y10) (PI.asBool y11[y3.toNat * 1]? fun x1 => bif x1 then must (inB y3 y6) (must (decide (y3.toNat * 1 < y7.length)) (asSl y7[y3.toNat * 1]? fun x2 x3
 => need (O.R 0 141 [sl y8 y9, sl x2 x3]) fun x4 => asTup (some x4) fun x5 => asOsl x5[0]? fun x6 x7 => O.L 0 195 0 [true, true, true, true, false, true] [] m [(0, sl y1 y2), (5, ptr 0 0), (7,
 ref 1), (8, ref 2), (9, int .i64 (i64.wrap (y3 + 1)))] [Ob.box 66 [int .i64 y4, int .i64 y5, sl y6 y7] false, Ob.row 5 x6 x7 false, Ob.row 4 y10 y11 false])) else must (inB y3 y6)
 (must (decide (y3.toNat * 1 < y7.length)) (asSl y7[y3.toNat * 1]? fun x8 x9 => need (O.R 0 141 [sl x8 x9, sl y8 y9]) fun x10 => asTup (some x10) fun x11 => asOsl x11[0]? fun x12 x13 => O.L 0 195 0
 [true, true, true, true, false, true] [] m [(0, sl y1 y2), (5, ptr 0 0), (7, ref 1), (8, ref 2), (9, int .i64 (i64.wrap (y3 + 1)))] [Ob.box 66 [int .i64 y4, int .i64 y5, sl y6
 y7] false, Ob.row 5 x12 x13 false, Ob.row 4 y10 y11 false]))) else need (O.R 0 82 [sl y8 y9, sl y1 y2]) fun x14 => asTup (some x14) fun x15 => PI.asBool x15[0]? fun x16 => some (tup [bool
 x16])
theorem E195l1 (y1 y2 y3 y4 y5 y6 y7 y8 y9 y10 y11) {r : V} (h : T195l1 (orcE C) 0 y1 y2 y3 y4 y5
 y6 y7 y8 y9 y10 y11 = some r) : loopE C 195 0 [true, true, true, true, false, true] [] [(0, sl y1 y2), (5, ptr 0 0), (7, ref 1), (8, ref 2), (9, int .i64 y3)] [Ob.box 66 [int .i64 y4,
 int .i64 y5, sl y6 y7] false, Ob.row 5 y8 y9 false, Ob.row 4 y10 y11 false] = some r := ofL (j := 0) (F := fun s => T195l1 (orc C s.k) s.m y1 y2 y3 y4 y5 y6 y7 y8 y9 y10 y11) (fs0 fun _ _
 => by kernel_rfl) (by
  unfold T195l1
  repeat' first | (with_reducible first | intro _ | exact cC | apply cN cR | apply cT | apply cM | apply cF | apply cB | apply cL | apply cO | apply cN cC | exact cR) | exact cD0 gM) h
def T192l2 (O : Orc) (m q0 : Nat) (y1 y2 y3 : Int) (y4 : Nat) (y5 : List V) (y6 y7 : Int) (y8 : Nat) (y9 : List V) : Option V := bif decide (y3 ≥ 0) then must
 (decide (0 ≤ y3)) (must (true && (y8 + 1).ble 140737488355328 && ((y8 + 1) * 8).ble 140737488355328) (O.L 0 192 2 [true, true, false, true, false, true, true, false, false, true, true] [q0] m [(3,
 ref 0), (4, int .i64 (i64.wrap (i64.wrap (y1 + 3) - i64.wrap (PI.bits u8 (fun x1 x2 => x1 &&& x2) (y2.fdiv (2 ^ min y3.toNat 8)) 3)))), (6, int .u8 y2), (7, int
 .i64 (i64.wrap (y3 - 2))), (13, sl y4 y5), (14, int .i64 y6), (15, int .i64 y7)] [Ob.row 2 (y8 + 1) (y9 ++ [int .i64 (i64.wrap (PI.bits u8 (fun x1 x2 => x1 &&& x2)
 (y2.fdiv (2 ^ min y3.toNat 8)) 3))]) false])) else O.L 0 192 0 [true, true, false, true] [] q0 [(3, ref 0), (4, int .i64 y1), (13, sl y4 y5), (14, int .i64 y6), (15, int .i64
 (i64.wrap (y7 + 1)))] [Ob.row 2 y8 y9 false]
theorem E192l2 (y1 y2 y3 y4 y5 y6 y7 y8 y9) {r : V} (h : T192l2 (orcE C) 0 0 y1 y2 y3 y4 y5 y6 y7 y8 y9 = some r) : loopE
 C 192 2 [true, true, false, true, false, true, true, false, false, true, true] [0] [(3, ref 0), (4, int .i64 y1), (6, int .u8 y2), (7, int .i64 y3), (13, sl y4 y5), (14, int .i64 y6), (15,
 int .i64 y7)] [Ob.row 2 y8 y9 false] = some r := ofL (j := 0) (F := fun s => T192l2 (orc C s.k) s.m (s.fs.getD 0 0) y1 y2 y3 y4 y5 y6 y7 y8 y9) (fs1 fun _ _ _ => by kernel_rfl) (by
  unfold T192l2
  repeat' first | (with_reducible first | intro _ | exact cC | apply cM | apply cF) | exact cD0 (gF (i := 0) (by decide)) | exact cD1 gM (gF (i := 0) (by decide))) h
def T220 (O : Orc) (y1 : Nat) (y2 : List V) : Option V := bif y1.beq (OfNat.ofNat 0) then both (some (tup [osl 0 []])) (must (decide (y2.length = y1 * 1)) (must
 (true && (0 + y1).ble 140737488355328 && ((0 + y1) * 1).ble 140737488355328) (must (false || y2.all flatV) (some (tup [osl (0 + y1) y2]))))) else must (decide (y2.length = y1 * 1)) (must (true &&
 (0 + y1).ble 140737488355328 && ((0 + y1) * 1).ble 140737488355328) (must (false || y2.all flatV) (some (tup [osl (0 + y1) y2]))))
theorem E220 (y1 y2) {r : V} (h : T220 (orcE C) y1 y2 = some r) : runE C 220 [sl y1 y2] = some r := ofR (j := 1) (F := fun s => T220 (orc C s.k) y1 y2) (fun _ =>
 by kernel_rfl) (by
  unfold T220
  repeat' first | (with_reducible first | intro _ | exact cC | apply cM | apply cF | apply cW)) h
def T193l1 (O : Orc) (m : Nat) (y1 y2 : Int) (y3 : Nat) (y4 : List V) : Option V := bif decide (y2 < y1) then need (O.R 0 147 [str { data := #[(115 : UInt8), (116 :
 UInt8), (101 : UInt8), (112 : UInt8)] }, sl 1 [sl y3 y4]]) fun x1 => asTup (some x1) fun x2 => asOsl x2[0]? fun x3 x4 => O.L 0 193 0 [true, true, false, true] [] m [(0, ref 0), (7, int .i64
 y1), (8, int .i64 (i64.wrap (y2 + 1)))] [Ob.row 5 x3 x4 false] else must (false || y4.all flatV) (some (tup [osl y3 y4]))
theorem E193l1 (y1 y2 y3 y4) {r : V} (h : T193l1 (orcE C) 0 y1 y2 y3 y4 = some r) : loopE C 193 0 [true, true, false, true] [] [(0, ref 0), (7, int .i64 y1),
 (8, int .i64 y2)] [Ob.row 5 y3 y4 false] = some r := ofL (j := 0) (F := fun s => T193l1 (orc C s.k) s.m y1 y2 y3 y4) (fs0 fun _ _ => by kernel_rfl) (by
  unfold T193l1
  repeat' first | (with_reducible first | intro _ | exact cC | apply cN cR | apply cT | apply cM | apply cF | apply cO | apply cN cC | exact cR) | exact cD0 gM) h
def T215l1 (O : Orc) (m : Nat) (y1 : Nat) (y2 : List V) (y3 y4 : Int) : Option V := bif decide (y4 < (↑y1 : Int)) then must (inB y4 y1) (PI.asInt .u8 y2[y4.toNat * 1]? fun
 x1 => O.L 0 215 0 [true, true, false, true] [] m [(0, sl y1 y2), (3, int .i64 (i64.wrap (i64.wrap (y3 * 256) + i64.wrap x1))), (4, int .i64 (i64.wrap (y4 + 1)))]
 []) else some (tup [int .i64 y3])
theorem E215l1 (y1 y2 y3 y4) {r : V} (h : T215l1 (orcE C) 0 y1 y2 y3 y4 = some r) : loopE C 215 0 [true, true, false, true] [] [(0, sl y1 y2), (3, int .i64
 y3), (4, int .i64 y4)] [] = some r := ofL (j := 0) (F := fun s => T215l1 (orc C s.k) s.m y1 y2 y3 y4) (fs0 fun _ _ => by kernel_rfl) (by
  unfold T215l1
  repeat' first | (with_reducible first | intro _ | exact cC | apply cI | apply cM | apply cF) | exact cD0 gM) h
def T216 (O : Orc) (y1 y2 : Int) : Option V := must (decide (0 ≤ y2)) (must (decide (0 ≤ u64.wrap (32 - y2))) (some (tup [int .i64 ((PI.bits
 i64 (fun x1 x2 => x1 ||| x2) (y1.fdiv (2 ^ min y2.toNat 64)) (i64.wrap (y1 * 2 ^ min (u64.wrap (32 - y2)).toNat 64))).tmod 4294967296)])))
theorem E216 (y1 y2) {r : V} (h : T216 (orcE C) y1 y2 = some r) : runE C 216 [int .i64 y1, int .u64 y2] = some r := ofR (j := 1) (F := fun s => T216 (orc C s.k) y1
 y2) (fun _ => by kernel_rfl) (by
  unfold T216
  repeat' first | (with_reducible first | intro _ | exact cC | apply cM)) h
def T186l6 (O : Orc) (k m q0 : Nat) (y1 : Nat) (y2 : List V) (y3 y4 : Int) (y5 y6 y7 y8 : List V) : Option V := bif decide (y4 < 64) then
 PI.asInt .i64 y8[0]? fun x1 => PI.asInt .i64 y8[1]? fun x2 => PI.asInt .i64 y8[2]? fun x3 => PI.asInt .i64 y8[3]? fun x4 => PI.asInt .i64 y8[4]? fun x5 => PI.asInt .i64 y8[5]? fun x6 => PI.asInt .i64
 y8[6]? fun x7 => PI.asInt .i64 y8[7]? fun x8 => must (inB y4 64) (PI.asInt .i64 y7[0 + y4.toNat * 1]? fun x9 => must (inB y4 64) (PI.asInt .i64 y5[0 + y4.toNat * 1]? fun x10 => need (O.R 0 217 [agg
 [int .i64 x1, int .i64 x2, int .i64 x3, int .i64 x4, int .i64 x5, int .i64 x6, int .i64 x7, int .i64 x8], int .i64 x9, int .i64 x10]) fun x11 => asTup (some x11) fun x12 =>
 PI.asInt .i64 x12[0]? fun x13 => PI.asInt .i64 x12[1]? fun x14 => PI.asInt .i64 x12[2]? fun x15 => PI.asInt .i64 x12[3]? fun x16 => PI.asInt .i64 x12[4]? fun x17 => PI.asInt .i64 x12[5]? fun x18 =>
 PI.asInt .i64 x12[6]? fun x19 => PI.asInt .i64 x12[7]? fun x20 => must ([int .i64 x13, int .i64 x14, int .i64 x15, int .i64 x16, int .i64 x17, int .i64 x18, int .i64 x19, int .i64
 x20].length.beq 8 && true && (0 + [int .i64 x13, int .i64 x14, int .i64 x15, int .i64 x16, int .i64 x17, int .i64 x18, int .i64 x19, int .i64 x20].length).ble y8.length && flatB C 219
 [int .i64 x13, int .i64 x14, int .i64 x15, int .i64 x16, int .i64 x17, int .i64 x18, int .i64 x19, int .i64 x20]) (O.L 0 186 6 [true, true, true, true, false, true, false, true, false,
 false, true, true, true, true, false, true] [q0] m [(3, ptr 0 0), (4, ptr 1 0), (5, sl y1 y2), (6, int .i64 y3), (7, ptr 2 0), (14, ptr 3 0), (15, int .i64 (i64.wrap (y4 + 1)))]
 [Ob.box 217 y5 false, Ob.box 219 y6 false, Ob.box 217 y7 false, Ob.box 219 (splice y8 0 [int .i64 x13, int .i64 x14, int .i64 x15, int .i64 x16, int .i64 x17, int .i64 x18, int .i64 x19,
 int .i64 x20]) false]))) else O.L 0 186 8 [true, true, true, true, false, true, false, true, false, false, true, true, true, true, true, true] [q0] k [(3, ptr 0 0), (4, ptr 1 0), (5, sl y1
 y2), (6, int .i64 y3), (14, ptr 2 0), (16, int .i64 0)] [Ob.box 217 y5 false, Ob.box 219 y6 false, Ob.box 219 y8 false]
theorem E186l6 (y1 y2 y3 y4 y5 y6 y7 y8) {r : V} (h : T186l6 (orcE C) 0 0 0 y1 y2 y3 y4 y5 y6 y7 y8 = some r) : loopE C
 186 6 [true, true, true, true, false, true, false, true, false, false, true, true, true, true, false, true] [0] [(3, ptr 0 0), (4, ptr 1 0), (5, sl y1 y2), (6, int .i64 y3), (7, ptr 2 0),
 (14, ptr 3 0), (15, int .i64 y4)] [Ob.box 217 y5 false, Ob.box 219 y6 false, Ob.box 217 y7 false, Ob.box 219 y8 false] = some r := ofL (j := 0) (F := fun s => T186l6 (orc C s.k) s.k s.m (s.fs.getD
 0 0) y1 y2 y3 y4 y5 y6 y7 y8) (fs1 fun _ _ _ => by kernel_rfl) (by
  unfold T186l6
  repeat' first | (with_reducible first | intro _ | exact cC | apply cN cR | apply cT | apply cI | apply cM | apply cF | apply cN cC | exact cR) | exact cD1 gK (gF (i := 0) (by decide)) | exact cD1 gM (gF (i := 0) (by decide))) h
def T189l2 (O : Orc) (m : Nat) (y1 : Int) (y2 : Nat) (y3 : List V) : Option V := bif decide (y1 > 0) then need (O.R 0 138 [str { data := #[(115 : UInt8), (116 : UInt8), (101 :
 UInt8), (112 : UInt8)] }, sl y2 y3]) fun x1 => asTup (some x1) fun x2 => asOsl x2[0]? fun x3 x4 => O.L 0 189 0 [true, false] [] m [(0, ref 0), (1, int .i64 (i64.wrap (y1 - 1)))] [Ob.row
 5 x3 x4 false] else must (decide (y3.length = y2 * 1)) (must (true && (0 + y2).ble 140737488355328 && ((0 + y2) * 1).ble 140737488355328) (must (false || y3.all flatV) (some (tup [osl (0 + y2)
 y3]))))
theorem E189l2 (y1 y2 y3) {r : V} (h : T189l2 (orcE C) 0 y1 y2 y3 = some r) : loopE C 189 0 [true, false] [] [(0, ref 0), (1, int .i64 y1)] [Ob.row 5 y2 y3 false] =
 some r := ofL (j := 0) (F := fun s => T189l2 (orc C s.k) s.m y1 y2 y3) (fs0 fun _ _ => by kernel_rfl) (by
  unfold T189l2
  repeat' first | (with_reducible first | intro _ | exact cC | apply cN cR | apply cT | apply cM | apply cF | apply cO | apply cN cC | exact cR) | exact cD0 gM) h
def T181 (O : Orc) (y1 : Nat) (y2 : List V) : Option V := need (O.R 0 106 [sl y1 y2]) fun x1 => asTup (some x1) fun x2 => PI.asBool x2[0]? fun x3 => some (tup
 [bool !x3])
theorem E181 (y1 y2) {r : V} (h : T181 (orcE C) y1 y2 = some r) : runE C 181 [sl y1 y2] = some r := ofR (j := 1) (F := fun s => T181 (orc C s.k) y1 y2) (fun _ =>
 by kernel_rfl) (by
  unfold T181
  repeat' first | (with_reducible first | intro _ | exact cC | apply cN cR | apply cT | apply cB | apply cN cC | exact cR)) h
def T201 (O : Orc) (y1 : Nat) (y2 : List V) (y3 : Int) (y4 : Nat) (y5 : List V) : Option V := need (O.R 0 76 [sl y1 y2, sl y4 y5]) fun x1 => asTup (some x1) fun x2
 => PI.asBool x2[0]? fun x3 => some (tup [bool x3])
theorem E201 (y1 y2 y3 y4 y5) {r : V} (h : T201 (orcE C) y1 y2 y3 y4 y5 = some r) : runE C 201 [agg [sl y1 y2, int .i64 y3], pin [sl y4 y5]
 0] = some r := ofR (j := 1) (F := fun s => T201 (orc C s.k) y1 y2 y3 y4 y5) (fun _ => by kernel_rfl) (by
  unfold T201
  repeat' first | (with_reducible first | intro _ | exact cC | apply cN cR | apply cT | apply cB | apply cN cC | exact cR)) h
def T130l3 (O : Orc) (k m : Nat) (y1 y2 : Int) (y3 : Nat) (y4 : List V) : Option V := bif decide (y2 ≥ 0) then must (decide (0 ≤ y2)) (must (true && (y3 + 1).ble
 140737488355328 && ((y3 + 1) * 1).ble 140737488355328) (O.L 0 130 4 [true, true, true, true, true, true, false, true] [] m [(3, ref 0), (6, int .u64 y1), (7, int .i64 (i64.wrap (y2 -
 8)))] [Ob.row 5 (y3 + 1) (y4 ++ [int .u8 (u8.wrap (y1.fdiv (2 ^ min y2.toNat 64)))]) false])) else O.L 0 130 6 [true, true, true, true, true, true, true, true, false] [] k [(3, ref 0), (8,
 ptr 1 0)] [Ob.row 5 y3 y4 false, Ob.box 192 [int .u32 1779033703, int .u32 3144134277, int .u32 1013904242, int .u32 2773480762, int .u32 1359893119, int .u32 2600822924, int .u32
 528734635, int .u32 1541459225] false]
theorem E130l3 (y1 y2 y3 y4) {r : V} (h : T130l3 (orcE C) 0 0 y1 y2 y3 y4 = some r) : loopE C 130 4 [true, true, true, true, true, true, false, true] [] [(3, ref
 0), (6, int .u64 y1), (7, int .i64 y2)] [Ob.row 5 y3 y4 false] = some r := ofL (j := 0) (F := fun s => T130l3 (orc C s.k) s.k s.m y1 y2 y3 y4) (fs0 fun _ _ => by kernel_rfl) (by
  unfold T130l3
  repeat' first | (with_reducible first | intro _ | exact cC | apply cM | apply cF) | exact cD0 gK | exact cD0 gM) h
def T217 (O : Orc) (y1 y2 y3 y4 y5 y6 y7 y8 y9 y10 : Int) : Option V := need (O.R 0 216 [int
 .i64 y5, int .u64 6]) fun x1 => asTup (some x1) fun x2 => PI.asInt .i64 x2[0]? fun x3 => need (O.R 0 216 [int .i64 y5, int .u64 11]) fun x4 => asTup (some x4) fun x5 => PI.asInt .i64 x5[0]? fun
 x6 => need (O.R 0 216 [int .i64 y5, int .u64 25]) fun x7 => asTup (some x7) fun x8 => PI.asInt .i64 x8[0]? fun x9 => need (O.R 0 229 [int .i64 y5]) fun x10 => asTup (some x10) fun x11 =>
 PI.asInt .i64 x11[0]? fun x12 => need (O.R 0 216 [int .i64 y1, int .u64 2]) fun x13 => asTup (some x13) fun x14 => PI.asInt .i64 x14[0]? fun x15 => need (O.R 0 216 [int .i64 y1, int .u64 13])
 fun x16 => asTup (some x16) fun x17 => PI.asInt .i64 x17[0]? fun x18 => need (O.R 0 216 [int .i64 y1, int .u64 22]) fun x19 => asTup (some x19) fun x20 => PI.asInt .i64 x20[0]? fun x21 => some
 (tup [int .i64 ((i64.wrap ((i64.wrap (i64.wrap (i64.wrap (i64.wrap (y8 + PI.bits i64 (fun x1 x2 => x1 ^^^ x2) (PI.bits i64 (fun x1 x2 => x1
 ^^^ x2) x3 x6) x9) + PI.bits i64 (fun x1 x2 => x1 ^^^ x2) (PI.bits i64 (fun x1 x2 => x1 &&& x2) y5 y6) (PI.bits i64 (fun x1 x2 => x1 &&& x2) x12 y7)) + y10) + y9)).tmod
 4294967296 + (i64.wrap (PI.bits i64 (fun x1 x2 => x1 ^^^ x2) (PI.bits i64 (fun x1 x2 => x1 ^^^ x2) x15 x18) x21 + PI.bits i64 (fun x1 x2 => x1 ^^^ x2) (PI.bits
 i64 (fun x1 x2 => x1 ^^^ x2) (PI.bits i64 (fun x1 x2 => x1 &&& x2) y1 y2) (PI.bits i64 (fun x1 x2 => x1 &&& x2) y1 y3)) (PI.bits i64 (fun x1 x2 => x1 &&& x2) y2
 y3))).tmod 4294967296)).tmod 4294967296), int .i64 y1, int .i64 y2, int .i64 y3, int .i64 ((i64.wrap (y4 + (i64.wrap (i64.wrap (i64.wrap (i64.wrap (y8 +
 PI.bits i64 (fun x1 x2 => x1 ^^^ x2) (PI.bits i64 (fun x1 x2 => x1 ^^^ x2) x3 x6) x9) + PI.bits i64 (fun x1 x2 => x1 ^^^ x2) (PI.bits i64 (fun x1 x2 => x1 &&& x2) y5
 y6) (PI.bits i64 (fun x1 x2 => x1 &&& x2) x12 y7)) + y10) + y9)).tmod 4294967296)).tmod 4294967296), int .i64 y5, int .i64 y6, int .i64 y7])
theorem E217 (y1 y2 y3 y4 y5 y6 y7 y8 y9 y10) {r : V} (h : T217 (orcE C) y1 y2 y3 y4 y5 y6 y7 y8 y9 y10 = some r) :
 runE C 217 [agg [int .i64 y1, int .i64 y2, int .i64 y3, int .i64 y4, int .i64 y5, int .i64 y6, int .i64 y7, int .i64 y8], int .i64 y9, int .i64 y10] = some r := ofR (j := 1) (F
 := fun s => T217 (orc C s.k) y1 y2 y3 y4 y5 y6 y7 y8 y9 y10) (fun _ => by kernel_rfl) (by
  unfold T217
  repeat' first | (with_reducible first | intro _ | exact cC | apply cN cR | apply cT | apply cI | apply cN cC | exact cR)) h
def T186l7 (O : Orc) (m q0 : Nat) (y1 : Nat) (y2 : List V) (y3 y4 : Int) (y5 y6 y7 : List V) : Option V := bif decide (y4 < 8) then must (inB y4 8)
 (PI.asInt .i64 y6[0 + y4.toNat * 1]? fun x1 => must (inB y4 8) (PI.asInt .i64 y7[0 + y4.toNat * 1]? fun x2 => must (inB y4 8) (must ((int .i64 ((i64.wrap (x1 + x2)).tmod 4294967296)).solid
 && true && (0 + y4.toNat * 1 + 1).ble y6.length && flatB C 219 [int .i64 ((i64.wrap (x1 + x2)).tmod 4294967296)]) (O.L 0 186 8 [true, true, true, true, false, true, false, true, false,
 false, true, true, true, true, true, true] [q0] m [(3, ptr 0 0), (4, ptr 1 0), (5, sl y1 y2), (6, int .i64 y3), (14, ptr 2 0), (16, int .i64 (i64.wrap (y4 + 1)))] [Ob.box 217 y5
 false, Ob.box 219 (splice y6 (0 + y4.toNat * 1) [int .i64 ((i64.wrap (x1 + x2)).tmod 4294967296)]) false, Ob.box 219 y7 false])))) else O.L 0 186 0 [true, true, true, true, false, true] []
 q0 [(3, ptr 0 0), (4, ptr 1 0), (5, sl y1 y2), (6, int .i64 (i64.wrap (y3 + 64)))] [Ob.box 217 y5 false, Ob.box 219 y6 false]
theorem E186l7 (y1 y2 y3 y4 y5 y6 y7) {r : V} (h : T186l7 (orcE C) 0 0 y1 y2 y3 y4 y5 y6 y7 = some r) : loopE C 186 8 [true, true,
 true, true, false, true, false, true, false, false, true, true, true, true, true, true] [0] [(3, ptr 0 0), (4, ptr 1 0), (5, sl y1 y2), (6, int .i64 y3), (14, ptr 2 0), (16, int .i64 y4)]
 [Ob.box 217 y5 false, Ob.box 219 y6 false, Ob.box 219 y7 false] = some r := ofL (j := 0) (F := fun s => T186l7 (orc C s.k) s.m (s.fs.getD 0 0) y1 y2 y3 y4 y5 y6 y7) (fs1 fun _ _ _ => by
 kernel_rfl) (by
  unfold T186l7
  repeat' first | (with_reducible first | intro _ | exact cC | apply cI | apply cM | apply cF) | exact cD0 (gF (i := 0) (by decide)) | exact cD1 gM (gF (i := 0) (by decide))) h
def T130l4 (O : Orc) (k m : Nat) (y1 : Nat) (y2 y3 : List V) : Option V := bif decide ((↑y1 : Int) > 0) then PI.asInt .u32 y3[0]? fun x1 => PI.asInt .u32 y3[1]? fun x2 =>
 PI.asInt .u32 y3[2]? fun x3 => PI.asInt .u32 y3[3]? fun x4 => PI.asInt .u32 y3[4]? fun x5 => PI.asInt .u32 y3[5]? fun x6 => PI.asInt .u32 y3[6]? fun x7 => PI.asInt .u32 y3[7]? fun x8 => must (true &&
 decide (64 ≤ (↑y1 : Int))) (need (O.R 0 182 [agg [int .u32 x1, int .u32 x2, int .u32 x3, int .u32 x4, int .u32 x5, int .u32 x6, int .u32 x7, int .u32 x8], sl 64 (List.take 64
 (List.drop 0 y2))]) fun x9 => asTup (some x9) fun x10 => PI.asInt .u32 x10[0]? fun x11 => PI.asInt .u32 x10[1]? fun x12 => PI.asInt .u32 x10[2]? fun x13 => PI.asInt .u32 x10[3]? fun x14 => PI.asInt
 .u32 x10[4]? fun x15 => PI.asInt .u32 x10[5]? fun x16 => PI.asInt .u32 x10[6]? fun x17 => PI.asInt .u32 x10[7]? fun x18 => must ([int .u32 x11, int .u32 x12, int .u32 x13, int .u32 x14, int
 .u32 x15, int .u32 x16, int .u32 x17, int .u32 x18].length.beq 8 && true && (0 + [int .u32 x11, int .u32 x12, int .u32 x13, int .u32 x14, int .u32 x15, int .u32 x16, int .u32 x17,
 int .u32 x18].length).ble y3.length && flatB C 192 [int .u32 x11, int .u32 x12, int .u32 x13, int .u32 x14, int .u32 x15, int .u32 x16, int .u32 x17, int .u32 x18]) (must (true &&
 decide (64 ≤ (↑y1 : Int))) (O.L 0 130 6 [true, true, true, true, true, true, true, true, false] [] m [(3, sl (y1 - 64) (List.take ((y1 - 64) * 1) (List.drop 64 y2))), (8, ptr 0 0)] [Ob.box 192
 (splice y3 0 [int .u32 x11, int .u32 x12, int .u32 x13, int .u32 x14, int .u32 x15, int .u32 x16, int .u32 x17, int .u32 x18]) false]))) else PI.asInt .u32 y3[0]? fun x19 => PI.asInt
 .u32 y3[1]? fun x20 => PI.asInt .u32 y3[2]? fun x21 => PI.asInt .u32 y3[3]? fun x22 => PI.asInt .u32 y3[4]? fun x23 => PI.asInt .u32 y3[5]? fun x24 => PI.asInt .u32 y3[6]? fun x25 => PI.asInt .u32
 y3[7]? fun x26 => O.L 0 130 8 [true, true, true, true, true, true, true, true, true, true, false, true] [] k [(9, ref 0), (59, agg [int .u32 x19, int .u32 x20, int .u32 x21, int .u32 x22,
 int .u32 x23, int .u32 x24, int .u32 x25, int .u32 x26]), (60, int .i64 0)] [Ob.row 5 0 [] false]
theorem E130l4 (y1 y2 y3) {r : V} (h : T130l4 (orcE C) 0 0 y1 y2 y3 = some r) : loopE C 130 6 [true, true, true, true, true, true, true, true, false] [] [(3, ref 0),
 (8, ptr 1 0)] [Ob.row 5 y1 y2 false, Ob.box 192 y3 false] = some r := ofL (j := 0) (F := fun s => T130l4 (orc C s.k) s.k s.m y1 y2 y3) (fs0 fun _ _ => by kernel_rfl) (by
  unfold T130l4
  repeat' first | (with_reducible first | intro _ | exact cC | apply cN cR | apply cT | apply cI | apply cM | apply cF | apply cN cC | exact cR) | exact cD0 gK | exact cD0 gM) h
def T229 (O : Orc) (y1 : Int) : Option V := some (tup [int .i64 (i64.wrap (4294967295 - y1))])
theorem E229 (y1) {r : V} (h : T229 (orcE C) y1 = some r) : runE C 229 [int .i64 y1] = some r := ofR (j := 1) (F := fun s => T229 (orc C s.k) y1) (fun _ => by kernel_rfl) (by
  unfold T229
  exact cC) h
def T182 (O : Orc) (k : Nat) (y1 y2 y3 y4 y5 y6 y7 y8 : Int) (y9 : Nat) (y10 : List V) : Option V := O.L 0 182 0 [true,
 true, false, true] [] k [(1, sl y9 y10), (2, ptr 0 0), (4, ptr 1 0), (5, ptr 2 0), (16, int .i64 0)] [Ob.box 192 [int .u32 y1, int .u32 y2, int .u32 y3, int .u32 y4, int .u32 y5,
 int .u32 y6, int .u32 y7, int .u32 y8] false, Ob.box 192 [int .u32 0, int .u32 0, int .u32 0, int .u32 0, int .u32 0, int .u32 0, int .u32 0, int .u32 0] false, Ob.box 213 [int
 .u32 0, int .u32 0, int .u32 0, int .u32 0, int .u32 0, int .u32 0, int .u32 0, int .u32 0, int .u32 0, int .u32 0, int .u32 0, int .u32 0, int .u32 0, int .u32 0, int .u32
 0, int .u32 0, int .u32 0, int .u32 0, int .u32 0, int .u32 0, int .u32 0, int .u32 0, int .u32 0, int .u32 0, int .u32 0, int .u32 0, int .u32 0, int .u32 0, int .u32 0,
 int .u32 0, int .u32 0, int .u32 0, int .u32 0, int .u32 0, int .u32 0, int .u32 0, int .u32 0, int .u32 0, int .u32 0, int .u32 0, int .u32 0, int .u32 0, int .u32 0,
 int .u32 0, int .u32 0, int .u32 0, int .u32 0, int .u32 0, int .u32 0, int .u32 0, int .u32 0, int .u32 0, int .u32 0, int .u32 0, int .u32 0, int .u32 0, int .u32 0,
 int .u32 0, int .u32 0, int .u32 0, int .u32 0, int .u32 0, int .u32 0, int .u32 0] false]
theorem E182 (y1 y2 y3 y4 y5 y6 y7 y8 y9 y10) {r : V} (h : T182 (orcE C) 0 y1 y2 y3 y4 y5 y6 y7 y8 y9 y10 = some
 r) : runE C 182 [agg [int .u32 y1, int .u32 y2, int .u32 y3, int .u32 y4, int .u32 y5, int .u32 y6, int .u32 y7, int .u32 y8], sl y9 y10] = some r := ofR (j := 1) (F := fun s =>
 T182 (orc C s.k) s.k y1 y2 y3 y4 y5 y6 y7 y8 y9 y10) (fun _ => by kernel_rfl) (by
  unfold T182
  repeat' first | with_reducible exact cC | exact cD0 gK) h
def T130l5 (O : Orc) (k m : Nat) (y1 : Nat) (y2 y3 : List V) : Option V := bif decide ((↑y1 : Int) > 0) then PI.asInt .u32 y3[0]? fun x1 => PI.asInt .u32 y3[1]? fun x2 =>
 PI.asInt .u32 y3[2]? fun x3 => PI.asInt .u32 y3[3]? fun x4 => PI.asInt .u32 y3[4]? fun x5 => PI.asInt .u32 y3[5]? fun x6 => PI.asInt .u32 y3[6]? fun x7 => PI.asInt .u32 y3[7]? fun x8 => must (true &&
 decide (64 ≤ (↑y1 : Int))) (need (O.R 0 182 [agg [int .u32 x1, int .u32 x2, int .u32 x3, int .u32 x4, int .u32 x5, int .u32 x6, int .u32 x7, int .u32 x8], sl 64 (List.take 64
 (List.drop 0 y2))]) fun x9 => asTup (some x9) fun x10 => PI.asInt .u32 x10[0]? fun x11 => PI.asInt .u32 x10[1]? fun x12 => PI.asInt .u32 x10[2]? fun x13 => PI.asInt .u32 x10[3]? fun x14 => PI.asInt
 .u32 x10[4]? fun x15 => PI.asInt .u32 x10[5]? fun x16 => PI.asInt .u32 x10[6]? fun x17 => PI.asInt .u32 x10[7]? fun x18 => must ([int .u32 x11, int .u32 x12, int .u32 x13, int .u32 x14, int
 .u32 x15, int .u32 x16, int .u32 x17, int .u32 x18].length.beq 8 && true && (0 + [int .u32 x11, int .u32 x12, int .u32 x13, int .u32 x14, int .u32 x15, int .u32 x16, int .u32 x17,
 int .u32 x18].length).ble y3.length && flatB C 192 [int .u32 x11, int .u32 x12, int .u32 x13, int .u32 x14, int .u32 x15, int .u32 x16, int .u32 x17, int .u32 x18]) (must (true &&
 decide (64 ≤ (↑y1 : Int))) (O.L 0 130 6 [true, true, true, true, true, true, true, true, false] [] m [(3, sl (y1 - 64) (List.take ((y1 - 64) * 1) (List.drop 64 y2))), (8, ptr 0 0)] [Ob.box 192
 (splice y3 0 [int .u32 x11, int .u32 x12, int .u32 x13, int .u32 x14, int .u32 x15, int .u32 x16, int .u32 x17, int .u32 x18]) false]))) else PI.asInt .u32 y3[0]? fun x19 => PI.asInt
 .u32 y3[1]? fun x20 => PI.asInt .u32 y3[2]? fun x21 => PI.asInt .u32 y3[3]? fun x22 => PI.asInt .u32 y3[4]? fun x23 => PI.asInt .u32 y3[5]? fun x24 => PI.asInt .u32 y3[6]? fun x25 => PI.asInt .u32
 y3[7]? fun x26 => O.L 0 130 8 [true, true, true, true, true, true, true, true, true, true, false, true] [] k [(9, ref 0), (59, agg [int .u32 x19, int .u32 x20, int .u32 x21, int .u32 x22,
 int .u32 x23, int .u32 x24, int .u32 x25, int .u32 x26]), (60, int .i64 0)] [Ob.row 5 0 [] false]
theorem E130l5 (y1 y2 y3) {r : V} (h : T130l5 (orcE C) 0 0 y1 y2 y3 = some r) : loopE C 130 6 [true, true, true, true, true, true, true, true, false] [] [(3, sl y1
 y2), (8, ptr 0 0)] [Ob.box 192 y3 false] = some r := ofL (j := 0) (F := fun s => T130l5 (orc C s.k) s.k s.m y1 y2 y3) (fs0 fun _ _ => by kernel_rfl) (by
  unfold T130l5
  repeat' first | (with_reducible first | intro _ | exact cC | apply cN cR | apply cT | apply cI | apply cM | apply cF | apply cN cC | exact cR) | exact cD0 gK | exact cD0 gM) h
def T130l6 (O : Orc) (m : Nat) (y1 y2 y3 y4 y5 y6 y7 y8 y9 : Int) (y10 : Nat) (y11 : List V) : Option V := bif
 decide (y9 < 8) then must (inB y9 8) (PI.asInt .u32 [int .u32 y1, int .u32 y2, int .u32 y3, int .u32 y4, int .u32 y5, int .u32 y6, int .u32 y7, int .u32 y8][y9.toNat * 1]? fun x1 =>
 must (true && (y10 + 4).ble 140737488355328 && ((y10 + 4) * 1).ble 140737488355328) (O.L 0 130 8 [true, true, true, true, true, true, true, true, true, true, false, true] [] m [(9, ref 0), (59,
 agg [int .u32 y1, int .u32 y2, int .u32 y3, int .u32 y4, int .u32 y5, int .u32 y6, int .u32 y7, int .u32 y8]), (60, int .i64 (i64.wrap (y9 + 1)))] [Ob.row 5 (y10 + 4) (y11
 ++ [int .u8 (u8.wrap (x1.fdiv 16777216)), int .u8 (u8.wrap (x1.fdiv 65536)), int .u8 (u8.wrap (x1.fdiv 256)), int .u8 (u8.wrap x1)]) false])) else must (false
 || y11.all flatV) (some (tup [osl y10 y11]))
theorem E130l6 (y1 y2 y3 y4 y5 y6 y7 y8 y9 y10 y11) {r : V} (h : T130l6 (orcE C) 0 y1 y2 y3 y4 y5 y6 y7 y8
 y9 y10 y11 = some r) : loopE C 130 8 [true, true, true, true, true, true, true, true, true, true, false, true] [] [(9, ref 0), (59, agg [int .u32 y1, int .u32 y2, int .u32 y3, int .u32 y4,
 int .u32 y5, int .u32 y6, int .u32 y7, int .u32 y8]), (60, int .i64 y9)] [Ob.row 5 y10 y11 false] = some r := ofL (j := 0) (F := fun s => T130l6 (orc C s.k) s.m y1 y2 y3 y4 y5 y6 y7
 y8 y9 y10 y11) (fs0 fun _ _ => by kernel_rfl) (by
  unfold T130l6
  repeat' first | (with_reducible first | intro _ | exact cC | apply cI | apply cM | apply cF) | exact cD0 gM) h
def T182l1 (O : Orc) (k m : Nat) (y1 : Nat) (y2 : List V) (y3 : Int) (y4 y5 y6 : List V) : Option V := bif decide (y3 < 64) then bif decide (y3 < 16) then must
 (inB (i64.wrap (4 * y3)) y1) (PI.asInt .u8 y2[(i64.wrap (4 * y3)).toNat * 1]? fun x1 => must (inB (i64.wrap (i64.wrap (4 * y3) + 1)) y1) (PI.asInt .u8
 y2[(i64.wrap (i64.wrap (4 * y3) + 1)).toNat * 1]? fun x2 => must (inB (i64.wrap (i64.wrap (4 * y3) + 2)) y1) (PI.asInt .u8 y2[(i64.wrap (i64.wrap (4 *
 y3) + 2)).toNat * 1]? fun x3 => must (inB (i64.wrap (i64.wrap (4 * y3) + 3)) y1) (PI.asInt .u8 y2[(i64.wrap (i64.wrap (4 * y3) + 3)).toNat * 1]? fun x4 => must (inB y3
 64) (must ((int .u32 (PI.bits u32 (fun x1 x2 => x1 ||| x2) (PI.bits u32 (fun x1 x2 => x1 ||| x2) (PI.bits u32 (fun x1 x2 => x1 ||| x2) (u32.wrap (u32.wrap x1
 * 16777216)) (u32.wrap (u32.wrap x2 * 65536))) (u32.wrap (u32.wrap x3 * 256))) (u32.wrap x4))).solid && true && (0 + y3.toNat * 1 + 1).ble y6.length && flatB C
 213 [int .u32 (PI.bits u32 (fun x1 x2 => x1 ||| x2) (PI.bits u32 (fun x1 x2 => x1 ||| x2) (PI.bits u32 (fun x1 x2 => x1 ||| x2) (u32.wrap (u32.wrap x1 *
 16777216)) (u32.wrap (u32.wrap x2 * 65536))) (u32.wrap (u32.wrap x3 * 256))) (u32.wrap x4))]) (O.L 0 182 0 [true, true, false, true] [] m [(1, sl y1 y2), (2,
 ptr 0 0), (4, ptr 1 0), (5, ptr 2 0), (16, int .i64 (i64.wrap (y3 + 1)))] [Ob.box 192 y4 false, Ob.box 192 y5 false, Ob.box 213 (splice y6 (0 + y3.toNat * 1) [int .u32 (PI.bits
 u32 (fun x1 x2 => x1 ||| x2) (PI.bits u32 (fun x1 x2 => x1 ||| x2) (PI.bits u32 (fun x1 x2 => x1 ||| x2) (u32.wrap (u32.wrap x1 * 16777216)) (u32.wrap
 (u32.wrap x2 * 65536))) (u32.wrap (u32.wrap x3 * 256))) (u32.wrap x4))]) false])))))) else must (inB (i64.wrap (y3 - 15)) 64) (PI.asInt .u32 y6[0 +
 (i64.wrap (y3 - 15)).toNat * 1]? fun x5 => must (inB (i64.wrap (y3 - 2)) 64) (PI.asInt .u32 y6[0 + (i64.wrap (y3 - 2)).toNat * 1]? fun x6 => need (O.R 0 209 [int .u32 x5,
 int .i64 (-7)]) fun x7 => asTup (some x7) fun x8 => PI.asInt .u32 x8[0]? fun x9 => need (O.R 0 209 [int .u32 x5, int .i64 (-18)]) fun x10 => asTup (some x10) fun x11 => PI.asInt .u32 x11[0]? fun
 x12 => need (O.R 0 209 [int .u32 x6, int .i64 (-17)]) fun x13 => asTup (some x13) fun x14 => PI.asInt .u32 x14[0]? fun x15 => need (O.R 0 209 [int .u32 x6, int .i64 (-19)]) fun x16 => asTup
 (some x16) fun x17 => PI.asInt .u32 x17[0]? fun x18 => must (inB (i64.wrap (y3 - 7)) 64) (PI.asInt .u32 y6[0 + (i64.wrap (y3 - 7)).toNat * 1]? fun x19 => must (inB (i64.wrap
 (y3 - 16)) 64) (PI.asInt .u32 y6[0 + (i64.wrap (y3 - 16)).toNat * 1]? fun x20 => must (inB y3 64) (must ((int .u32 (u32.wrap (u32.wrap (u32.wrap (PI.bits u32
 (fun x1 x2 => x1 ^^^ x2) (PI.bits u32 (fun x1 x2 => x1 ^^^ x2) x15 x18) (x6.fdiv 1024) + x19) + PI.bits u32 (fun x1 x2 => x1 ^^^ x2) (PI.bits u32 (fun x1 x2 => x1 ^^^ x2) x9
 x12) (x5.fdiv 8)) + x20))).solid && true && (0 + y3.toNat * 1 + 1).ble y6.length && flatB C 213 [int .u32 (u32.wrap (u32.wrap (u32.wrap (PI.bits u32 (fun x1 x2 => x1
 ^^^ x2) (PI.bits u32 (fun x1 x2 => x1 ^^^ x2) x15 x18) (x6.fdiv 1024) + x19) + PI.bits u32 (fun x1 x2 => x1 ^^^ x2) (PI.bits u32 (fun x1 x2 => x1 ^^^ x2) x9 x12) (x5.fdiv 8)) +
 x20))]) (O.L 0 182 0 [true, true, false, true] [] m [(1, sl y1 y2), (2, ptr 0 0), (4, ptr 1 0), (5, ptr 2 0), (16, int .i64 (i64.wrap (y3 + 1)))] [Ob.box 192 y4 false, Ob.box 192 y5
 false, Ob.box 213 (splice y6 (0 + y3.toNat * 1) [int .u32 (u32.wrap (u32.wrap (u32.wrap (PI.bits u32 (fun x1 x2 => x1 ^^^ x2) (PI.bits u32 (fun x1 x2 => x1
 ^^^ x2) x15 x18) (x6.fdiv 1024) + x19) + PI.bits u32 (fun x1 x2 => x1 ^^^ x2) (PI.bits u32 (fun x1 x2 => x1 ^^^ x2) x9 x12) (x5.fdiv 8)) + x20))]) false])))))) else PI.asInt .u32
 y4[0]? fun x21 => PI.asInt .u32 y4[1]? fun x22 => PI.asInt .u32 y4[2]? fun x23 => PI.asInt .u32 y4[3]? fun x24 => PI.asInt .u32 y4[4]? fun x25 => PI.asInt .u32 y4[5]? fun x26 => PI.asInt .u32 y4[6]?
 fun x27 => PI.asInt .u32 y4[7]? fun x28 => need (O.R 0 210 []) fun x29 => PI.asAgg (some x29) fun x30 => O.L 0 182 2 [true, true, true, true, false, true] [] k [(2, ptr 0 0), (4, ptr 1 0), (5,
 ptr 2 0), (11, ptr 3 0), (97, agg (renV.renL [] x30)), (98, int .i64 0)] [Ob.box 192 y4 false, Ob.box 192 y5 false, Ob.box 213 y6 false, Ob.box 192 [int .u32 x21, int .u32 x22, int .u32
 x23, int .u32 x24, int .u32 x25, int .u32 x26, int .u32 x27, int .u32 x28] false]
theorem E182l1 (y1 y2 y3 y4 y5 y6) {r : V} (h : T182l1 (orcE C) 0 0 y1 y2 y3 y4 y5 y6 = some r) : loopE C 182 0 [true, true, false, true]
 [] [(1, sl y1 y2), (2, ptr 0 0), (4, ptr 1 0), (5, ptr 2 0), (16, int .i64 y3)] [Ob.box 192 y4 false, Ob.box 192 y5 false, Ob.box 213 y6 false] = some r := ofL (j := 0) (F := fun s => T182l1 (orc C s.k) s.k s.m y1 y2 y3 y4 y5 y6) (fs0 fun _ _ => by kernel_rfl) (by
  unfold T182l1
  repeat' first | (with_reducible first | intro _ | exact cC | apply cN cR | apply cT | apply cI | apply cM | apply cF | apply cA | apply cN cC | exact cR) | exact cD0 gK | exact cD0 gM) h
def T209 (O : Orc) (y1 y2 : Int) : Option V := must (decide (0 ≤ u64.wrap (32 - PI.bits u64 (fun x1 x2 => x1 &&& x2) (u64.wrap y2) 31)))
 (some (tup [int .u32 (PI.bits u32 (fun x1 x2 => x1 ||| x2) (u32.wrap (y1 * 2 ^ min (PI.bits u64 (fun x1 x2 => x1 &&& x2) (u64.wrap y2) 31).toNat 32)) (y1.fdiv (2 ^
 min (u64.wrap (32 - PI.bits u64 (fun x1 x2 => x1 &&& x2) (u64.wrap y2) 31)).toNat 32)))]))
theorem E209 (y1 y2) {r : V} (h : T209 (orcE C) y1 y2 = some r) : runE C 209 [int .u32 y1, int .i64 y2] = some r := ofR (j := 1) (F := fun s => T209 (orc C s.k) y1
 y2) (fun _ => by kernel_rfl) (by
  unfold T209
  repeat' first | (with_reducible first | intro _ | exact cC | apply cM)) h
def T210 (O : Orc)  : Option V := some (agg [int .u32 1116352408, int .u32 1899447441, int .u32 3049323471, int .u32 3921009573, int .u32 961987163, int
 .u32 1508970993, int .u32 2453635748, int .u32 2870763221, int .u32 3624381080, int .u32 310598401, int .u32 607225278, int .u32 1426881987, int .u32 1925078388, int .u32 2162078206,
 int .u32 2614888103, int .u32 3248222580, int .u32 3835390401, int .u32 4022224774, int .u32 264347078, int .u32 604807628, int .u32 770255983, int .u32 1249150122, int .u32
 1555081692, int .u32 1996064986, int .u32 2554220882, int .u32 2821834349, int .u32 2952996808, int .u32 3210313671, int .u32 3336571891, int .u32 3584528711, int .u32 113926993, int
 .u32 338241895, int .u32 666307205, int .u32 773529912, int .u32 1294757372, int .u32 1396182291, int .u32 1695183700, int .u32 1986661051, int .u32 2177026350, int .u32 2456956037,
 int .u32 2730485921, int .u32 2820302411, int .u32 3259730800, int .u32 3345764771, int .u32 3516065817, int .u32 3600352804, int .u32 4094571909, int .u32 275423344, int .u32
 430227734, int .u32 506948616, int .u32 659060556, int .u32 883997877, int .u32 958139571, int .u32 1322822218, int .u32 1537002063, int .u32 1747873779, int .u32 1955562222, int
 .u32 2024104815, int .u32 2227730452, int .u32 2361852424, int .u32 2428436474, int .u32 2756734187, int .u32 3204031479, int .u32 3329325298])
theorem E210  {r : V} (h : T210 (orcE C)  = some r) : runE C 210 [] = some r := ofR (j := 1) (F := fun s => T210 (orc C s.k) ) (fun _ => by kernel_rfl) (by
  unfold T210
  exact cC) h
def T182l2 (O : Orc) (k m : Nat) (y1 : List V) (y2 : Int) (y3 y4 y5 y6 : List V) : Option V := bif decide (y2 < 64) then must (inB y2 64) (PI.asInt
 .u32 y1[y2.toNat * 1]? fun x1 => PI.asInt .u32 y6[0]? fun x2 => PI.asInt .u32 y6[1]? fun x3 => PI.asInt .u32 y6[2]? fun x4 => PI.asInt .u32 y6[3]? fun x5 => PI.asInt .u32 y6[4]? fun x6 => PI.asInt
 .u32 y6[5]? fun x7 => PI.asInt .u32 y6[6]? fun x8 => PI.asInt .u32 y6[7]? fun x9 => must (inB y2 64) (PI.asInt .u32 y5[0 + y2.toNat * 1]? fun x10 => need (O.R 0 211 [agg [int .u32 x2, int .u32
 x3, int .u32 x4, int .u32 x5, int .u32 x6, int .u32 x7, int .u32 x8, int .u32 x9], int .u32 x10, int .u32 x1]) fun x11 => asTup (some x11) fun x12 => PI.asInt .u32 x12[0]? fun x13 =>
 PI.asInt .u32 x12[1]? fun x14 => PI.asInt .u32 x12[2]? fun x15 => PI.asInt .u32 x12[3]? fun x16 => PI.asInt .u32 x12[4]? fun x17 => PI.asInt .u32 x12[5]? fun x18 => PI.asInt .u32 x12[6]? fun x19 =>
 PI.asInt .u32 x12[7]? fun x20 => must ([int .u32 x13, int .u32 x14, int .u32 x15, int .u32 x16, int .u32 x17, int .u32 x18, int .u32 x19, int .u32 x20].length.beq 8 && true && (0 +
 [int .u32 x13, int .u32 x14, int .u32 x15, int .u32 x16, int .u32 x17, int .u32 x18, int .u32 x19, int .u32 x20].length).ble y6.length && flatB C 192 [int .u32 x13, int .u32 x14,
 int .u32 x15, int .u32 x16, int .u32 x17, int .u32 x18, int .u32 x19, int .u32 x20]) (O.L 0 182 2 [true, true, true, true, false, true] [] m [(2, ptr 0 0), (4, ptr 1 0), (5, ptr 2
 0), (11, ptr 3 0), (97, agg (renV.renL [] y1)), (98, int .i64 (i64.wrap (y2 + 1)))] [Ob.box 192 y3 false, Ob.box 192 y4 false, Ob.box 213 y5 false, Ob.box 192 (splice y6 0 [int .u32
 x13, int .u32 x14, int .u32 x15, int .u32 x16, int .u32 x17, int .u32 x18, int .u32 x19, int .u32 x20]) false]))) else O.L 0 182 4 [true, true, true, true, true, false, true] [] k [(2,
 ptr 0 0), (4, ptr 1 0), (11, ptr 2 0), (109, int .i64 0)] [Ob.box 192 y3 false, Ob.box 192 y4 false, Ob.box 192 y6 false]
theorem E182l2 (y1 y2 y3 y4 y5 y6) {r : V} (h : T182l2 (orcE C) 0 0 y1 y2 y3 y4 y5 y6 = some r) : loopE C 182 2 [true, true, true, true,
 false, true] [] [(2, ptr 0 0), (4, ptr 1 0), (5, ptr 2 0), (11, ptr 3 0), (97, agg y1), (98, int .i64 y2)] [Ob.box 192 y3 false, Ob.box 192 y4 false, Ob.box 213 y5 false, Ob.box 192 y6
 false] = some r := ofL (j := 0) (F := fun s => T182l2 (orc C s.k) s.k s.m y1 y2 y3 y4 y5 y6) (fs0 fun _ _ => by kernel_rfl) (by
  unfold T182l2
  repeat' first | (with_reducible first | intro _ | exact cC | apply cN cR | apply cT | apply cI | apply cM | apply cF | apply cN cC | exact cR) | exact cD0 gK | exact cD0 gM) h
def T211 (O : Orc) (y1 y2 y3 y4 y5 y6 y7 y8 y9 y10 : Int) : Option V := need (O.R 0 228 [int
 .u32 y5, int .i64 6]) fun x1 => asTup (some x1) fun x2 => PI.asInt .u32 x2[0]? fun x3 => need (O.R 0 228 [int .u32 y5, int .i64 11]) fun x4 => asTup (some x4) fun x5 => PI.asInt .u32 x5[0]? fun
 x6 => need (O.R 0 228 [int .u32 y5, int .i64 25]) fun x7 => asTup (some x7) fun x8 => PI.asInt .u32 x8[0]? fun x9 => need (O.R 0 228 [int .u32 y1, int .i64 2]) fun x10 => asTup (some x10) fun
 x11 => PI.asInt .u32 x11[0]? fun x12 => need (O.R 0 228 [int .u32 y1, int .i64 13]) fun x13 => asTup (some x13) fun x14 => PI.asInt .u32 x14[0]? fun x15 => need (O.R 0 228 [int .u32 y1, int
 .i64 22]) fun x16 => asTup (some x16) fun x17 => PI.asInt .u32 x17[0]? fun x18 => some (tup [int .u32 (u32.wrap (u32.wrap (u32.wrap (u32.wrap (u32.wrap (y8
 + PI.bits u32 (fun x1 x2 => x1 ^^^ x2) (PI.bits u32 (fun x1 x2 => x1 ^^^ x2) x3 x6) x9) + PI.bits u32 (fun x1 x2 => x1 ^^^ x2) (PI.bits u32 (fun x1 x2 => x1 &&& x2) y5
 y6) (PI.bits u32 (fun x1 x2 => x1 &&& x2) (PI.bits u32 (fun x1 x2 => x1 ^^^ x2) 4294967295 y5) y7)) + y10) + y9) + u32.wrap (PI.bits u32 (fun x1 x2 => x1 ^^^ x2)
 (PI.bits u32 (fun x1 x2 => x1 ^^^ x2) x12 x15) x18 + PI.bits u32 (fun x1 x2 => x1 ^^^ x2) (PI.bits u32 (fun x1 x2 => x1 ^^^ x2) (PI.bits u32 (fun x1 x2 => x1 &&& x2) y1
 y2) (PI.bits u32 (fun x1 x2 => x1 &&& x2) y1 y3)) (PI.bits u32 (fun x1 x2 => x1 &&& x2) y2 y3)))), int .u32 y1, int .u32 y2, int .u32 y3, int .u32 (u32.wrap (y4 +
 u32.wrap (u32.wrap (u32.wrap (u32.wrap (y8 + PI.bits u32 (fun x1 x2 => x1 ^^^ x2) (PI.bits u32 (fun x1 x2 => x1 ^^^ x2) x3 x6) x9) + PI.bits u32
 (fun x1 x2 => x1 ^^^ x2) (PI.bits u32 (fun x1 x2 => x1 &&& x2) y5 y6) (PI.bits u32 (fun x1 x2 => x1 &&& x2) (PI.bits u32 (fun x1 x2 => x1 ^^^ x2) 4294967295 y5) y7)) + y10) +
 y9))), int .u32 y5, int .u32 y6, int .u32 y7])
theorem E211 (y1 y2 y3 y4 y5 y6 y7 y8 y9 y10) {r : V} (h : T211 (orcE C) y1 y2 y3 y4 y5 y6 y7 y8 y9 y10 = some r) :
 runE C 211 [agg [int .u32 y1, int .u32 y2, int .u32 y3, int .u32 y4, int .u32 y5, int .u32 y6, int .u32 y7, int .u32 y8], int .u32 y9, int .u32 y10] = some r := ofR (j := 1) (F
 := fun s => T211 (orc C s.k) y1 y2 y3 y4 y5 y6 y7 y8 y9 y10) (fun _ => by kernel_rfl) (by
  unfold T211
  repeat' first | (with_reducible first | intro _ | exact cC | apply cN cR | apply cT | apply cI | apply cN cC | exact cR)) h
def T182l3 (O : Orc) (m : Nat) (y1 : Int) (y2 y3 y4 : List V) : Option V := bif decide (y1 < 8) then must (inB y1 8) (PI.asInt .u32 y4[0 + y1.toNat * 1]? fun
 x1 => must (inB y1 8) (PI.asInt .u32 y2[0 + y1.toNat * 1]? fun x2 => must (inB y1 8) (must ((int .u32 (u32.wrap (x1 + x2))).solid && true && (0 + y1.toNat * 1 + 1).ble y4.length && flatB C
 192 [int .u32 (u32.wrap (x1 + x2))]) (O.L 0 182 4 [true, true, true, true, true, false, true] [] m [(2, ptr 0 0), (4, ptr 1 0), (11, ptr 2 0), (109, int .i64 (i64.wrap (y1 +
 1)))] [Ob.box 192 y2 false, Ob.box 192 y3 false, Ob.box 192 (splice y4 (0 + y1.toNat * 1) [int .u32 (u32.wrap (x1 + x2))]) false])))) else PI.asInt .u32 y4[0]? fun x3 => PI.asInt .u32 y4[1]?
 fun x4 => PI.asInt .u32 y4[2]? fun x5 => PI.asInt .u32 y4[3]? fun x6 => PI.asInt .u32 y4[4]? fun x7 => PI.asInt .u32 y4[5]? fun x8 => PI.asInt .u32 y4[6]? fun x9 => PI.asInt .u32 y4[7]? fun x10 =>
 must ([int .u32 x3, int .u32 x4, int .u32 x5, int .u32 x6, int .u32 x7, int .u32 x8, int .u32 x9, int .u32 x10].length.beq 8 && true && (0 + [int .u32 x3, int .u32 x4, int .u32
 x5, int .u32 x6, int .u32 x7, int .u32 x8, int .u32 x9, int .u32 x10].length).ble y3.length && flatB C 192 [int .u32 x3, int .u32 x4, int .u32 x5, int .u32 x6, int .u32 x7, int
 .u32 x8, int .u32 x9, int .u32 x10]) (some (tup [int .u32 x3, int .u32 x4, int .u32 x5, int .u32 x6, int .u32 x7, int .u32 x8, int .u32 x9, int .u32 x10]))
theorem E182l3 (y1 y2 y3 y4) {r : V} (h : T182l3 (orcE C) 0 y1 y2 y3 y4 = some r) : loopE C 182 4 [true, true, true, true, true, false, true] [] [(2, ptr
 0 0), (4, ptr 1 0), (11, ptr 2 0), (109, int .i64 y1)] [Ob.box 192 y2 false, Ob.box 192 y3 false, Ob.box 192 y4 false] = some r := ofL (j := 0) (F := fun s => T182l3 (orc C s.k) s.m y1
 y2 y3 y4) (fs0 fun _ _ => by kernel_rfl) (by
  unfold T182l3
  repeat' first | (with_reducible first | intro _ | exact cC | apply cI | apply cM | apply cF) | exact cD0 gM) h
def T228 (O : Orc) (y1 y2 : Int) : Option V := need (O.R 0 209 [int .u32 y1, int .i64 (i64.wrap (0 - y2))]) fun x1 => asTup (some x1) fun x2 =>
 PI.asInt .u32 x2[0]? fun x3 => some (tup [int .u32 x3])
theorem E228 (y1 y2) {r : V} (h : T228 (orcE C) y1 y2 = some r) : runE C 228 [int .u32 y1, int .i64 y2] = some r := ofR (j := 1) (F := fun s => T228 (orc C s.k) y1
 y2) (fun _ => by kernel_rfl) (by
  unfold T228
  repeat' first | (with_reducible first | intro _ | exact cC | apply cN cR | apply cT | apply cI | apply cN cC | exact cR)) h
end Go.Proofs.YtodapaplfjfnlaaGreat.EqF
