/-
  The functions of a table, as the interpreter tells them. Printed by a program.
-/
import Derived.Test.YtehpmolckdmibaaGreatPITabP
import Derived.Test.YtehpmolckdmibaaGreatPIPlain
import Derived.KernelRfl
namespace Go.Proofs.YtehpmolckdmibaaGreat.EqP
open Go Go.PI
set_option maxRecDepth 100000
set_option maxHeartbeats 4000000
set_option linter.unusedVariables false
set_option linter.unusedSimpArgs false
noncomputable abbrev C := tabP.cfg

noncomputable def T5 (O : Orc) (k m q0 q1 : Nat) (y1 : Nat) (y2 : List V) (y3 : Int) : Option V := need (O.R 0 20 [V.agg [V.sl y1 y2, V.int .i64 y3], V.int .i64 1048576]) fun x1 => asTup (some x1) fun
 x2 => PI.asInt .i64 x2[0]? fun x3 => bif decide (x3 < 0) then some (V.tup [V.bool true]) else need (O.R 0 21 [V.agg [V.sl y1 y2, V.int .i64 y3]]) fun x4 => asTup (some x4) fun x5 => asOsl x5[0]? fun
 x6 x7 => PI.asInt .i64 x5[1]? fun x8 => need (O.R 0 18 [V.agg [V.sl x6 (bareL x7), V.int .i64 x8]]) fun x9 => asTup (some x9) fun x10 => PI.asInt .i64 x10[0]? fun x11 => asOsl x10[1]? fun x12 x13 =>
 PI.asInt .i64 x10[2]? fun x14 => need (O.R 0 21 [V.agg [V.sl y1 y2, V.int .i64 y3]]) fun x15 => asTup (some x15) fun x16 => asOsl x16[0]? fun x17 x18 => PI.asInt .i64 x16[1]? fun x19 => need (O.R 0 17
 [V.agg [V.sl x17 (bareL x18), V.int .i64 x19]]) fun x20 => asTup (some x20) fun x21 => PI.asInt .i64 x21[0]? fun x22 => asOsl x21[1]? fun x23 x24 => PI.asInt .i64 x21[2]? fun x25 => need (O.R 0 22
 [V.agg [V.int .i64 x22, V.sl x23 (bareL x24), V.int .i64 x25], V.agg [V.int .i64 x11, V.sl x12 (bareL x13), V.int .i64 x14]]) fun x26 => asTup (some x26) fun x27 => PI.asBool x27[0]? fun x28 => bif
 !x28 then some (V.tup [V.bool false]) else need (O.R 0 21 [V.agg [V.sl y1 y2, V.int .i64 y3]]) fun x29 => asTup (some x29) fun x30 => asOsl x30[0]? fun x31 x32 => PI.asInt .i64 x30[1]? fun x33 => need
 (O.R 0 23 [V.agg [V.sl x17 (bareL x18), V.int .i64 x19], V.agg [V.sl x31 (bareL x32), V.int .i64 x33]]) fun x34 => asTup (some x34) fun x35 => PI.asBool x35[0]? fun x36 => bif !x36 then some (V.tup
 [V.bool false]) else need (O.W 0 24 [0] [V.agg [V.ref 0, V.int .i64 x19], V.int .i64 1] [Ob.nrow [] 28 x17 x18]) fun x37 => asTup (some x37) fun x38 => PI.asInt .i64 x38[0]? fun x39 => asOsl x38[1]?
 fun x40 x41 => bif decide (x39 < 0) then some (V.tup [V.bool false]) else need (O.R 0 22 [V.agg [V.int .i64 x22, V.sl x23 (bareL x24), V.int .i64 x25], V.agg [V.int .i64 x11, V.sl x12 (bareL x13),
 V.int .i64 x14]]) fun x42 => asTup (some x42) fun x43 => PI.asBool x43[0]? fun x44 => bif !x44 then some (V.tup [V.bool false]) else need (O.W 0 25 [0] [V.agg [V.int .i64 x22, V.ref 0, V.int .i64
 x25], V.int .i64 1] [Ob.nrow [] 28 x23 x24]) fun x45 => asTup (some x45) fun x46 => PI.asInt .i64 x46[0]? fun x47 => asOsl x46[1]? fun x48 x49 => need (O.R 0 26 [V.agg [V.int .i64 x22, V.sl x48 (bareL
 x49), V.int .i64 x25], V.int .i64 1]) fun x50 => asTup (some x50) fun x51 => PI.asInt .i64 x51[0]? fun x52 => bif decide (x52 < 0) then some (V.tup [V.bool false]) else bif x52 != x47 then some (V.tup
 [V.bool false]) else need (O.R 0 21 [V.agg [V.sl y1 y2, V.int .i64 y3]]) fun x53 => asTup (some x53) fun x54 => asOsl x54[0]? fun x55 x56 => PI.asInt .i64 x54[1]? fun x57 => need (O.R 0 17 [V.agg
 [V.sl x55 (bareL x56), V.int .i64 x57]]) fun x58 => asTup (some x58) fun x59 => PI.asInt .i64 x59[0]? fun x60 => asOsl x59[1]? fun x61 x62 => PI.asInt .i64 x59[2]? fun x63 => need (O.R 0 22 [V.agg
 [V.int .i64 x60, V.sl x61 (bareL x62), V.int .i64 x63], V.agg [V.int .i64 x11, V.sl x12 (bareL x13), V.int .i64 x14]]) fun x64 => asTup (some x64) fun x65 => PI.asBool x65[0]? fun x66 => bif !x66 then
 some (V.tup [V.bool false]) else need (O.R 0 26 [V.agg [V.int .i64 x22, V.sl x48 (bareL x49), V.int .i64 x25], V.int .i64 1]) fun x67 => asTup (some x67) fun x68 => PI.asInt .i64 x68[0]? fun x69 =>
 bif decide (x69 < 0) then some (V.tup [V.bool false]) else bif x69 != x47 then some (V.tup [V.bool false]) else some (V.tup [V.bool true])
theorem e5 (k m q0 q1 : Nat) (y1 : Nat) (y2 : List V) (y3 : Int) : runV C (k + 1) 5 [V.agg [V.sl y1 y2, V.int .i64 y3]] = T5 (orc C k) k m q0 q1 y1 y2 y3 := by kernel_rfl
theorem E5 (y1 : Nat) (y2 : List V) (y3 : Int) {r : V} (h : T5 (orcE C) 0 0 0 0 y1 y2 y3 = some r) : runE C 5 [V.agg [V.sl y1 y2, V.int .i64 y3]] = some r := ofR (F := fun s => T5 (orc C s.k) s.k s.m 0
 0 y1 y2 y3) (fun k => e5 k k 0 0 y1 y2 y3) (by
  unfold T5
  repeat' first | with_reducible exact cC | with_reducible refine cN cR fun _ => ?_ | with_reducible refine cN cQ fun _ => ?_ | with_reducible refine cT fun _ => ?_ | with_reducible refine cI fun _ => ?_ | with_reducible refine cF ?_ ?_ | with_reducible refine cB fun _ => ?_ | with_reducible refine cO fun _ _ => ?_ | with_reducible refine cN cC fun _ => ?_ | with_reducible exact cR | with_reducible exact cQ) h

noncomputable def T20 (O : Orc) (k m q0 q1 : Nat) (y1 : Nat) (y2 : List V) (y3 : Int) (y4 : Int) : Option V := need (O.R 0 62 [V.sl y1 y2, V.int .i64 y4]) fun x1 => asTup (some x1) fun x2 => PI.asInt
 .i64 x2[0]? fun x3 => bif decide (x3 < 0) then some (V.tup [V.int .i64 (-1)]) else some (V.tup [V.int .i64 x3])
theorem e20 (k m q0 q1 : Nat) (y1 : Nat) (y2 : List V) (y3 : Int) (y4 : Int) : runV C (k + 1) 20 [V.agg [V.sl y1 y2, V.int .i64 y3], V.int .i64 y4] = T20 (orc C k) k m q0 q1 y1 y2 y3 y4 := by
 kernel_rfl
theorem E20 (y1 : Nat) (y2 : List V) (y3 : Int) (y4 : Int) {r : V} (h : T20 (orcE C) 0 0 0 0 y1 y2 y3 y4 = some r) : runE C 20 [V.agg [V.sl y1 y2, V.int .i64 y3], V.int .i64 y4] = some r := ofR (F :=
 fun s => T20 (orc C s.k) s.k s.m 0 0 y1 y2 y3 y4) (fun k => e20 k k 0 0 y1 y2 y3 y4) (by
  unfold T20
  repeat' first | with_reducible exact cC | with_reducible refine cN cR fun _ => ?_ | with_reducible refine cT fun _ => ?_ | with_reducible refine cI fun _ => ?_ | with_reducible refine cF ?_ ?_ | with_reducible refine cN cC fun _ => ?_ | with_reducible exact cR) h

noncomputable def T21 (O : Orc) (k m q0 q1 : Nat) (y1 : Nat) (y2 : List V) (y3 : Int) : Option V := need (O.R 0 63 [V.sl y1 y2]) fun x1 => asTup (some x1) fun x2 => asOsl x2[0]? fun x3 x4 => some
 (V.tup [V.osl x3 x4, V.int .i64 y3])
theorem e21 (k m q0 q1 : Nat) (y1 : Nat) (y2 : List V) (y3 : Int) : runV C (k + 1) 21 [V.agg [V.sl y1 y2, V.int .i64 y3]] = T21 (orc C k) k m q0 q1 y1 y2 y3 := by kernel_rfl
theorem E21 (y1 : Nat) (y2 : List V) (y3 : Int) {r : V} (h : T21 (orcE C) 0 0 0 0 y1 y2 y3 = some r) : runE C 21 [V.agg [V.sl y1 y2, V.int .i64 y3]] = some r := ofR (F := fun s => T21 (orc C s.k) s.k
 s.m 0 0 y1 y2 y3) (fun k => e21 k k 0 0 y1 y2 y3) (by
  unfold T21
  repeat' first | with_reducible exact cC | with_reducible refine cN cR fun _ => ?_ | with_reducible refine cT fun _ => ?_ | with_reducible refine cO fun _ _ => ?_ | with_reducible refine cN cC fun _ => ?_ | with_reducible exact cR) h

noncomputable def T18 (O : Orc) (k m q0 q1 : Nat) (y1 : Nat) (y2 : List V) (y3 : Int) : Option V := need (O.R 0 42 [V.agg [V.sl y1 y2, V.int .i64 y3]]) fun x1 => asTup (some x1) fun x2 => PI.asInt .i64
 x2[0]? fun x3 => bif x3 != 0 then some (V.tup [V.int .i64 x3, V.osl 0 [], V.int .i64 0]) else need (O.W 0 56 [] [V.ptr 0 0] [Ob.box 26 [V.sl y1 y2, V.int .i64 y3] false]) fun x4 => asTup (some x4) fun
 x5 => asSl x5[0]? fun x6 x7 => asSl x5[1]? fun x8 x9 => PI.asInt .i64 x5[2]? fun x10 => need (O.W 0 57 [] [V.ptr 0 0] [Ob.box 26 [V.sl x8 x9, V.int .i64 x10] false]) fun x11 => asTup (some x11) fun
 x12 => asSl x12[0]? fun x13 x14 => asSl x12[1]? fun x15 x16 => PI.asInt .i64 x12[2]? fun x17 => need (O.R 0 58 [V.sl x15 x16]) fun x18 => asTup (some x18) fun x19 => asOsl x19[0]? fun x20 x21 => O.L 0
 18 0 [true, true, true, true, true, true, false, true] [] k [(1, V.ptr 0 0), (2, V.ptr 1 0), (4, V.sl x6 x7), (5, V.sl x13 x14), (6, V.ref 3), (7, V.ptr 4 0), (8, V.int .i64 0)] [Ob.box 26 [V.sl x15
 x16, V.int .i64 x17] false, Ob.box 32 [V.int .i64 0, V.ref 2, V.int .i64 0] false, Ob.nrow [] 28 0 [], Ob.nrow [] 22 x20 x21, Ob.box 26 [V.ref 5, V.int .i64 x17] false, Ob.nrow [] 28 0 []]
theorem e18 (k m q0 q1 : Nat) (y1 : Nat) (y2 : List V) (y3 : Int) : runV C (k + 1) 18 [V.agg [V.sl y1 y2, V.int .i64 y3]] = T18 (orc C k) k m q0 q1 y1 y2 y3 := by kernel_rfl
theorem E18 (y1 : Nat) (y2 : List V) (y3 : Int) {r : V} (h : T18 (orcE C) 0 0 0 0 y1 y2 y3 = some r) : runE C 18 [V.agg [V.sl y1 y2, V.int .i64 y3]] = some r := ofR (F := fun s => T18 (orc C s.k) s.k
 s.m 0 0 y1 y2 y3) (fun k => e18 k k 0 0 y1 y2 y3) (by
  unfold T18
  repeat' first | with_reducible exact cC | with_reducible refine cN cR fun _ => ?_ | with_reducible refine cN cQ fun _ => ?_ | with_reducible refine cT fun _ => ?_ | with_reducible refine cI fun _ => ?_ | with_reducible refine cF ?_ ?_ | with_reducible refine cL fun _ _ => ?_ | with_reducible refine cO fun _ _ => ?_ | with_reducible refine cN cC fun _ => ?_ | with_reducible exact cR | with_reducible exact cQ | exact cD0 gK) h

noncomputable def T17 (O : Orc) (k m q0 q1 : Nat) (y1 : Nat) (y2 : List V) (y3 : Int) : Option V := need (O.R 0 13 [V.agg [V.sl y1 y2, V.int .i64 y3]]) fun x1 => asTup (some x1) fun x2 => PI.asInt .i64
 x2[0]? fun x3 => bif x3 != 0 then some (V.tup [V.int .i64 x3, V.osl 0 [], V.int .i64 0]) else need (O.R 0 55 [V.agg [V.sl y1 y2, V.int .i64 y3]]) fun x4 => asTup (some x4) fun x5 => asOsl x5[0]? fun
 x6 x7 => PI.asInt .i64 x5[1]? fun x8 => some (V.tup [V.int .i64 0, V.osl x6 x7, V.int .i64 x8])
theorem e17 (k m q0 q1 : Nat) (y1 : Nat) (y2 : List V) (y3 : Int) : runV C (k + 1) 17 [V.agg [V.sl y1 y2, V.int .i64 y3]] = T17 (orc C k) k m q0 q1 y1 y2 y3 := by kernel_rfl
theorem E17 (y1 : Nat) (y2 : List V) (y3 : Int) {r : V} (h : T17 (orcE C) 0 0 0 0 y1 y2 y3 = some r) : runE C 17 [V.agg [V.sl y1 y2, V.int .i64 y3]] = some r := ofR (F := fun s => T17 (orc C s.k) s.k
 s.m 0 0 y1 y2 y3) (fun k => e17 k k 0 0 y1 y2 y3) (by
  unfold T17
  repeat' first | with_reducible exact cC | with_reducible refine cN cR fun _ => ?_ | with_reducible refine cT fun _ => ?_ | with_reducible refine cI fun _ => ?_ | with_reducible refine cF ?_ ?_ | with_reducible refine cO fun _ _ => ?_ | with_reducible refine cN cC fun _ => ?_ | with_reducible exact cR) h

noncomputable def T22 (O : Orc) (k m q0 q1 : Nat) (y1 : Int) (y2 : Nat) (y3 : List V) (y4 : Int) (y5 : Int) (y6 : Nat) (y7 : List V) (y8 : Int) : Option V := bif y1 != y5 then some (V.tup [V.bool
 false]) else need (O.R 0 23 [V.agg [V.sl y2 y3, V.int .i64 y4], V.agg [V.sl y6 y7, V.int .i64 y8]]) fun x1 => asTup (some x1) fun x2 => PI.asBool x2[0]? fun x3 => bif !x3 then some (V.tup [V.bool
 false]) else some (V.tup [V.bool true])
theorem e22 (k m q0 q1 : Nat) (y1 : Int) (y2 : Nat) (y3 : List V) (y4 : Int) (y5 : Int) (y6 : Nat) (y7 : List V) (y8 : Int) : runV C (k + 1) 22 [V.agg [V.int .i64 y1, V.sl y2 y3, V.int .i64 y4], V.agg
 [V.int .i64 y5, V.sl y6 y7, V.int .i64 y8]] = T22 (orc C k) k m q0 q1 y1 y2 y3 y4 y5 y6 y7 y8 := by kernel_rfl
theorem E22 (y1 : Int) (y2 : Nat) (y3 : List V) (y4 : Int) (y5 : Int) (y6 : Nat) (y7 : List V) (y8 : Int) {r : V} (h : T22 (orcE C) 0 0 0 0 y1 y2 y3 y4 y5 y6 y7 y8 = some r) : runE C 22 [V.agg [V.int
 .i64 y1, V.sl y2 y3, V.int .i64 y4], V.agg [V.int .i64 y5, V.sl y6 y7, V.int .i64 y8]] = some r := ofR (F := fun s => T22 (orc C s.k) s.k s.m 0 0 y1 y2 y3 y4 y5 y6 y7 y8) (fun k => e22 k k 0 0 y1 y2
 y3 y4 y5 y6 y7 y8) (by
  unfold T22
  repeat' first | with_reducible exact cC | with_reducible refine cN cR fun _ => ?_ | with_reducible refine cT fun _ => ?_ | with_reducible refine cF ?_ ?_ | with_reducible refine cB fun _ => ?_ | with_reducible refine cN cC fun _ => ?_ | with_reducible exact cR) h

noncomputable def T23 (O : Orc) (k m q0 q1 : Nat) (y1 : Nat) (y2 : List V) (y3 : Int) (y4 : Nat) (y5 : List V) (y6 : Int) : Option V := need (O.R 0 64 [V.sl y1 y2, V.sl y4 y5]) fun x1 => asTup (some
 x1) fun x2 => PI.asBool x2[0]? fun x3 => bif !x3 then some (V.tup [V.bool false]) else bif y3 != y6 then some (V.tup [V.bool false]) else some (V.tup [V.bool true])
theorem e23 (k m q0 q1 : Nat) (y1 : Nat) (y2 : List V) (y3 : Int) (y4 : Nat) (y5 : List V) (y6 : Int) : runV C (k + 1) 23 [V.agg [V.sl y1 y2, V.int .i64 y3], V.agg [V.sl y4 y5, V.int .i64 y6]] = T23
 (orc C k) k m q0 q1 y1 y2 y3 y4 y5 y6 := by kernel_rfl
theorem E23 (y1 : Nat) (y2 : List V) (y3 : Int) (y4 : Nat) (y5 : List V) (y6 : Int) {r : V} (h : T23 (orcE C) 0 0 0 0 y1 y2 y3 y4 y5 y6 = some r) : runE C 23 [V.agg [V.sl y1 y2, V.int .i64 y3], V.agg
 [V.sl y4 y5, V.int .i64 y6]] = some r := ofR (F := fun s => T23 (orc C s.k) s.k s.m 0 0 y1 y2 y3 y4 y5 y6) (fun k => e23 k k 0 0 y1 y2 y3 y4 y5 y6) (by
  unfold T23
  repeat' first | with_reducible exact cC | with_reducible refine cN cR fun _ => ?_ | with_reducible refine cT fun _ => ?_ | with_reducible refine cF ?_ ?_ | with_reducible refine cB fun _ => ?_ | with_reducible refine cN cC fun _ => ?_ | with_reducible exact cR) h

noncomputable def T24 (O : Orc) (k m q0 q1 : Nat) (y1 : Int) (y2 : Int) (y3 : Nat) (y4 : List V) : Option V := need (O.W 0 65 [0] [V.ref 0, V.int .i64 y2] [Ob.nrow [] 28 y3 y4]) fun x1 => asTup (some
 x1) fun x2 => PI.asInt .i64 x2[0]? fun x3 => asOsl x2[1]? fun x4 x5 => some (V.tup [V.int .i64 x3, V.osl x4 x5])
theorem e24 (k m q0 q1 : Nat) (y1 : Int) (y2 : Int) (y3 : Nat) (y4 : List V) : runW C (k + 1) 24 [0] [V.agg [V.ref 0, V.int .i64 y1], V.int .i64 y2] [Ob.nrow [] 28 y3 y4] = T24 (orc C k) k m q0 q1 y1
 y2 y3 y4 := by kernel_rfl
theorem E24 (y1 : Int) (y2 : Int) (y3 : Nat) (y4 : List V) {r : V} (h : T24 (orcE C) 0 0 0 0 y1 y2 y3 y4 = some r) : runWE C 24 [0] [V.agg [V.ref 0, V.int .i64 y1], V.int .i64 y2] [Ob.nrow [] 28 y3 y4]
 = some r := ofW (F := fun s => T24 (orc C s.k) s.k s.m 0 0 y1 y2 y3 y4) (fun k => e24 k k 0 0 y1 y2 y3 y4) (by
  unfold T24
  repeat' first | with_reducible exact cC | with_reducible refine cN cQ fun _ => ?_ | with_reducible refine cT fun _ => ?_ | with_reducible refine cI fun _ => ?_ | with_reducible refine cO fun _ _ => ?_ | with_reducible refine cN cC fun _ => ?_ | with_reducible exact cQ) h

noncomputable def T25 (O : Orc) (k m q0 q1 : Nat) (y1 : Int) (y2 : Int) (y3 : Int) (y4 : Nat) (y5 : List V) : Option V := need (O.W 0 24 [0] [V.agg [V.ref 0, V.int .i64 y2], V.int .i64 y3] [Ob.nrow []
 28 y4 y5]) fun x1 => asTup (some x1) fun x2 => PI.asInt .i64 x2[0]? fun x3 => asOsl x2[1]? fun x4 x5 => some (V.tup [V.int .i64 x3, V.osl x4 x5])
theorem e25 (k m q0 q1 : Nat) (y1 : Int) (y2 : Int) (y3 : Int) (y4 : Nat) (y5 : List V) : runW C (k + 1) 25 [0] [V.agg [V.int .i64 y1, V.ref 0, V.int .i64 y2], V.int .i64 y3] [Ob.nrow [] 28 y4 y5] =
 T25 (orc C k) k m q0 q1 y1 y2 y3 y4 y5 := by kernel_rfl
theorem E25 (y1 : Int) (y2 : Int) (y3 : Int) (y4 : Nat) (y5 : List V) {r : V} (h : T25 (orcE C) 0 0 0 0 y1 y2 y3 y4 y5 = some r) : runWE C 25 [0] [V.agg [V.int .i64 y1, V.ref 0, V.int .i64 y2], V.int
 .i64 y3] [Ob.nrow [] 28 y4 y5] = some r := ofW (F := fun s => T25 (orc C s.k) s.k s.m 0 0 y1 y2 y3 y4 y5) (fun k => e25 k k 0 0 y1 y2 y3 y4 y5) (by
  unfold T25
  repeat' first | with_reducible exact cC | with_reducible refine cN cQ fun _ => ?_ | with_reducible refine cT fun _ => ?_ | with_reducible refine cI fun _ => ?_ | with_reducible refine cO fun _ _ => ?_ | with_reducible refine cN cC fun _ => ?_ | with_reducible exact cQ) h

noncomputable def T26 (O : Orc) (k m q0 q1 : Nat) (y1 : Int) (y2 : Nat) (y3 : List V) (y4 : Int) (y5 : Int) : Option V := need (O.R 0 66 [V.agg [V.sl y2 y3, V.int .i64 y4], V.int .i64 y5]) fun x1 =>
 asTup (some x1) fun x2 => PI.asInt .i64 x2[0]? fun x3 => bif decide (x3 < 0) then some (V.tup [V.int .i64 (-1)]) else some (V.tup [V.int .i64 x3])
theorem e26 (k m q0 q1 : Nat) (y1 : Int) (y2 : Nat) (y3 : List V) (y4 : Int) (y5 : Int) : runV C (k + 1) 26 [V.agg [V.int .i64 y1, V.sl y2 y3, V.int .i64 y4], V.int .i64 y5] = T26 (orc C k) k m q0 q1
 y1 y2 y3 y4 y5 := by kernel_rfl
theorem E26 (y1 : Int) (y2 : Nat) (y3 : List V) (y4 : Int) (y5 : Int) {r : V} (h : T26 (orcE C) 0 0 0 0 y1 y2 y3 y4 y5 = some r) : runE C 26 [V.agg [V.int .i64 y1, V.sl y2 y3, V.int .i64 y4], V.int
 .i64 y5] = some r := ofR (F := fun s => T26 (orc C s.k) s.k s.m 0 0 y1 y2 y3 y4 y5) (fun k => e26 k k 0 0 y1 y2 y3 y4 y5) (by
  unfold T26
  repeat' first | with_reducible exact cC | with_reducible refine cN cR fun _ => ?_ | with_reducible refine cT fun _ => ?_ | with_reducible refine cI fun _ => ?_ | with_reducible refine cF ?_ ?_ | with_reducible refine cN cC fun _ => ?_ | with_reducible exact cR) h

noncomputable def T62 (O : Orc) (k m q0 q1 : Nat) (y1 : Nat) (y2 : List V) (y3 : Int) : Option V := bif decide (IntKind.i64.wrap (y3 - (↑y1 : Int)) < 0) then some (V.tup [V.int .i64 (-1)]) else O.L 0
 62 0 [true, true, true, false, true] [] k [(0, V.sl y1 y2), (1, V.int .i64 (IntKind.i64.wrap (y3 - (↑y1 : Int)))), (5, V.int .i64 0)] []
theorem e62 (k m q0 q1 : Nat) (y1 : Nat) (y2 : List V) (y3 : Int) : runV C (k + 1) 62 [V.sl y1 y2, V.int .i64 y3] = T62 (orc C k) k m q0 q1 y1 y2 y3 := by kernel_rfl
theorem E62 (y1 : Nat) (y2 : List V) (y3 : Int) {r : V} (h : T62 (orcE C) 0 0 0 0 y1 y2 y3 = some r) : runE C 62 [V.sl y1 y2, V.int .i64 y3] = some r := ofR (F := fun s => T62 (orc C s.k) s.k s.m 0 0
 y1 y2 y3) (fun k => e62 k k 0 0 y1 y2 y3) (by
  unfold T62
  repeat' first | with_reducible exact cC | with_reducible refine cF ?_ ?_ | exact cD0 gK) h

noncomputable def T63 (O : Orc) (k m q0 q1 : Nat) (y1 : Nat) (y2 : List V) : Option V := must (decide ((↑y1 : Int) = (↑y1 : Int)) && decide (0 ≤ (↑y1 : Int)) && decide ((↑y1 : Int) ≤ 140737488355328)
 && decide ((↑y1 : Int) * 80 ≤ 140737488355328)) (O.L 0 63 0 [true, true, false, true] [] k [(0, V.sl y1 y2), (3, V.ref 0), (4, V.int .i64 0)] [Ob.nrow [] 28 (↑y1 : Int).toNat (reps (↑y1 : Int).toNat
 [V.nilsl, V.int .i64 0, V.int .i64 0, V.int .i64 0, V.nilsl, V.int .i64 0])])
theorem e63 (k m q0 q1 : Nat) (y1 : Nat) (y2 : List V) : runV C (k + 1) 63 [V.sl y1 y2] = T63 (orc C k) k m q0 q1 y1 y2 := by kernel_rfl
theorem E63 (y1 : Nat) (y2 : List V) {r : V} (h : T63 (orcE C) 0 0 0 0 y1 y2 = some r) : runE C 63 [V.sl y1 y2] = some r := ofR (F := fun s => T63 (orc C s.k) s.k s.m 0 0 y1 y2) (fun k => e63 k k 0 0
 y1 y2) (by
  unfold T63
  repeat' first | with_reducible exact cC | with_reducible refine cM ?_ | exact cD0 gK) h

noncomputable def T42 (O : Orc) (k m q0 q1 : Nat) (y1 : Nat) (y2 : List V) (y3 : Int) : Option V := need (O.R 0 99 [V.int .i64 y3, V.int .i64 1, V.int .i64 6]) fun x1 => asTup (some x1) fun x2 =>
 PI.asBool x2[0]? fun x3 => bif !x3 then some (V.tup [V.int .i64 3]) else bif (↑y1 : Int) == 0 then some (V.tup [V.int .i64 4]) else bif decide ((↑y1 : Int) > 24) then some (V.tup [V.int .i64 2]) else
 need (O.R 0 58 [V.sl y1 y2]) fun x4 => asTup (some x4) fun x5 => asOsl x5[0]? fun x6 x7 => O.L 0 42 0 [true, true, true, true, true, false, true] [] k [(1, V.ptr 0 0), (3, V.ref 1), (4, V.int .i64 0)]
 [Ob.box 26 [V.sl y1 y2, V.int .i64 y3] false, Ob.nrow [] 22 x6 x7]
theorem e42 (k m q0 q1 : Nat) (y1 : Nat) (y2 : List V) (y3 : Int) : runV C (k + 1) 42 [V.agg [V.sl y1 y2, V.int .i64 y3]] = T42 (orc C k) k m q0 q1 y1 y2 y3 := by kernel_rfl
theorem E42 (y1 : Nat) (y2 : List V) (y3 : Int) {r : V} (h : T42 (orcE C) 0 0 0 0 y1 y2 y3 = some r) : runE C 42 [V.agg [V.sl y1 y2, V.int .i64 y3]] = some r := ofR (F := fun s => T42 (orc C s.k) s.k
 s.m 0 0 y1 y2 y3) (fun k => e42 k k 0 0 y1 y2 y3) (by
  unfold T42
  repeat' first | with_reducible exact cC | with_reducible refine cN cR fun _ => ?_ | with_reducible refine cT fun _ => ?_ | with_reducible refine cF ?_ ?_ | with_reducible refine cB fun _ => ?_ | with_reducible refine cO fun _ _ => ?_ | with_reducible refine cN cC fun _ => ?_ | with_reducible exact cR | exact cD0 gK) h

noncomputable def T56 (O : Orc) (k m q0 q1 : Nat) (y1 : Nat) (y2 : List V) (y3 : Int) : Option V := need (O.R 0 58 [V.sl y1 y2]) fun x1 => asTup (some x1) fun x2 => asOsl x2[0]? fun x3 x4 => need (O.R
 0 121 [V.sl y1 y2, V.sl x3 (bareL x4)]) fun x5 => asTup (some x5) fun x6 => PI.asInt .i64 x6[0]? fun x7 => need (O.R 0 59 [V.sl y1 y2, V.sl x3 (bareL x4), V.int .i64 x7]) fun x8 => asTup (some x8) fun
 x9 => asSl x9[0]? fun x10 x11 => some (V.tup [V.sl x10 x11, V.sl y1 y2, V.int .i64 y3])
theorem e56 (k m q0 q1 : Nat) (y1 : Nat) (y2 : List V) (y3 : Int) : runW C (k + 1) 56 [] [V.ptr 0 0] [Ob.box 26 [V.sl y1 y2, V.int .i64 y3] false] = T56 (orc C k) k m q0 q1 y1 y2 y3 := by kernel_rfl
theorem E56 (y1 : Nat) (y2 : List V) (y3 : Int) {r : V} (h : T56 (orcE C) 0 0 0 0 y1 y2 y3 = some r) : runWE C 56 [] [V.ptr 0 0] [Ob.box 26 [V.sl y1 y2, V.int .i64 y3] false] = some r := ofW (F := fun
 s => T56 (orc C s.k) s.k s.m 0 0 y1 y2 y3) (fun k => e56 k k 0 0 y1 y2 y3) (by
  unfold T56
  repeat' first | with_reducible exact cC | with_reducible refine cN cR fun _ => ?_ | with_reducible refine cT fun _ => ?_ | with_reducible refine cI fun _ => ?_ | with_reducible refine cL fun _ _ => ?_ | with_reducible refine cO fun _ _ => ?_ | with_reducible refine cN cC fun _ => ?_ | with_reducible exact cR) h

noncomputable def T57 (O : Orc) (k m q0 q1 : Nat) (y1 : Nat) (y2 : List V) (y3 : Int) : Option V := need (O.W 0 56 [] [V.ptr 0 0] [Ob.box 26 [V.sl y1 y2, V.int .i64 y3] false]) fun x1 => asTup (some
 x1) fun x2 => asSl x2[0]? fun x3 x4 => asSl x2[1]? fun x5 x6 => PI.asInt .i64 x2[2]? fun x7 => must (inB (IntKind.i64.wrap ((↑x3 : Int) - 1)) x3) (PI.asInt .i64 x4[(IntKind.i64.wrap ((↑x3 : Int) -
 1)).toNat * 1]? fun x8 => must (inB x8 x5) (PI.asInt .i64 x6[x8.toNat * 6 + 1]? fun x9 => O.X 0 57 [] [Ob.box 26 [V.u, V.u] false] 0 [true, true, true, true, false, true] [] k [(0, V.ptr 0 0), (3,
 V.sl x3 x4), (4, V.int .i64 x9), (5, V.ref 1), (6, V.int .i64 0)] [Ob.box 26 [V.sl x5 x6, V.int .i64 x7] false, Ob.row 2 0 [] false]))
theorem e57 (k m q0 q1 : Nat) (y1 : Nat) (y2 : List V) (y3 : Int) : runW C (k + 1) 57 [] [V.ptr 0 0] [Ob.box 26 [V.sl y1 y2, V.int .i64 y3] false] = T57 (orc C k) k m q0 q1 y1 y2 y3 := by kernel_rfl
theorem E57 (y1 : Nat) (y2 : List V) (y3 : Int) {r : V} (h : T57 (orcE C) 0 0 0 0 y1 y2 y3 = some r) : runWE C 57 [] [V.ptr 0 0] [Ob.box 26 [V.sl y1 y2, V.int .i64 y3] false] = some r := ofW (F := fun
 s => T57 (orc C s.k) s.k s.m 0 0 y1 y2 y3) (fun k => e57 k k 0 0 y1 y2 y3) (by
  unfold T57
  repeat' first | with_reducible exact cC | with_reducible refine cN cQ fun _ => ?_ | with_reducible refine cT fun _ => ?_ | with_reducible refine cI fun _ => ?_ | with_reducible refine cM ?_ | with_reducible refine cL fun _ _ => ?_ | with_reducible refine cN cC fun _ => ?_ | with_reducible exact cQ | exact cX0 gK) h

noncomputable def T58 (O : Orc) (k m q0 q1 : Nat) (y1 : Nat) (y2 : List V) : Option V := O.L 0 58 0 [true, true, false, true] [] k [(0, V.sl y1 y2), (3, V.ref 0), (4, V.int .i64 0)] [Ob.nrow [] 22 0
 []]
theorem e58 (k m q0 q1 : Nat) (y1 : Nat) (y2 : List V) : runV C (k + 1) 58 [V.sl y1 y2] = T58 (orc C k) k m q0 q1 y1 y2 := by kernel_rfl
theorem E58 (y1 : Nat) (y2 : List V) {r : V} (h : T58 (orcE C) 0 0 0 0 y1 y2 = some r) : runE C 58 [V.sl y1 y2] = some r := ofR (F := fun s => T58 (orc C s.k) s.k s.m 0 0 y1 y2) (fun k => e58 k k 0 0
 y1 y2) (by
  unfold T58
  repeat' first | with_reducible exact cC | exact cD0 gK) h

noncomputable def T18l1 (O : Orc) (k m q0 q1 : Nat) (y1 : Nat) (y2 : List V) (y3 : Nat) (y4 : List V) (y5 : Int) (y6 : Nat) (y7 : List V) (y8 : Int) (y9 : Int) (y10 : Int) (y11 : Nat) (y12 : List V)
 (y13 : Nat) (y14 : List V) (y15 : Int) (y16 : Nat) (y17 : List V) : Option V := bif decide (y5 < (↑y6 : Int)) then need (O.R 0 59 [V.sl y6 y7, V.sl y13 (bareL y14), V.int .i64 y5]) fun x1 => asTup
 (some x1) fun x2 => asSl x2[0]? fun x3 x4 => O.L 0 18 2 [true, true, true, true, true, true, false, true, false, true, false, false, true, true, false, true] [m] k [(1, V.ptr 0 0), (2, V.ptr 1 0), (4,
 V.sl y1 y2), (5, V.sl y3 y4), (6, V.ref 3), (7, V.ptr 4 0), (8, V.int .i64 y5), (9, V.sl x3 x4), (10, V.int .i64 0), (11, V.int .i64 0)] [Ob.box 26 [V.sl y6 y7, V.int .i64 y8] false, Ob.box 32 [V.int
 .i64 y9, V.ref 2, V.int .i64 y10] false, Ob.nrow [] 28 y11 y12, Ob.row 22 y13 (bareL y14) true, Ob.box 26 [V.ref 5, V.int .i64 y15] false, Ob.nrow [] 28 y16 y17] else some (V.tup [V.int .i64 0, V.osl
 y16 y17, V.int .i64 y15])
theorem e18l1 (k m q0 q1 : Nat) (y1 : Nat) (y2 : List V) (y3 : Nat) (y4 : List V) (y5 : Int) (y6 : Nat) (y7 : List V) (y8 : Int) (y9 : Int) (y10 : Int) (y11 : Nat) (y12 : List V) (y13 : Nat) (y14 :
 List V) (y15 : Int) (y16 : Nat) (y17 : List V) : runL C k 18 0 [true, true, true, true, true, true, false, true] [] (m + 1) [(1, V.ptr 0 0), (2, V.ptr 1 0), (4, V.sl y1 y2), (5, V.sl y3 y4), (6, V.ref
 3), (7, V.ptr 4 0), (8, V.int .i64 y5)] [Ob.box 26 [V.sl y6 y7, V.int .i64 y8] false, Ob.box 32 [V.int .i64 y9, V.ref 2, V.int .i64 y10] false, Ob.nrow [] 28 y11 y12, Ob.nrow [] 22 y13 y14, Ob.box 26
 [V.ref 5, V.int .i64 y15] false, Ob.nrow [] 28 y16 y17] = T18l1 (orc C k) k m q0 q1 y1 y2 y3 y4 y5 y6 y7 y8 y9 y10 y11 y12 y13 y14 y15 y16 y17 := by kernel_rfl
theorem E18l1 (y1 : Nat) (y2 : List V) (y3 : Nat) (y4 : List V) (y5 : Int) (y6 : Nat) (y7 : List V) (y8 : Int) (y9 : Int) (y10 : Int) (y11 : Nat) (y12 : List V) (y13 : Nat) (y14 : List V) (y15 : Int)
 (y16 : Nat) (y17 : List V) {r : V} (h : T18l1 (orcE C) 0 0 0 0 y1 y2 y3 y4 y5 y6 y7 y8 y9 y10 y11 y12 y13 y14 y15 y16 y17 = some r) : loopE C 18 0 [true, true, true, true, true, true, false, true] []
 [(1, V.ptr 0 0), (2, V.ptr 1 0), (4, V.sl y1 y2), (5, V.sl y3 y4), (6, V.ref 3), (7, V.ptr 4 0), (8, V.int .i64 y5)] [Ob.box 26 [V.sl y6 y7, V.int .i64 y8] false, Ob.box 32 [V.int .i64 y9, V.ref 2,
 V.int .i64 y10] false, Ob.nrow [] 28 y11 y12, Ob.nrow [] 22 y13 y14, Ob.box 26 [V.ref 5, V.int .i64 y15] false, Ob.nrow [] 28 y16 y17] = some r := ofL (j := 0) (F := fun s => T18l1 (orc C s.k) s.k s.m
 0 0 y1 y2 y3 y4 y5 y6 y7 y8 y9 y10 y11 y12 y13 y14 y15 y16 y17) (fs0 fun k m => e18l1 k m 0 0 y1 y2 y3 y4 y5 y6 y7 y8 y9 y10 y11 y12 y13 y14 y15 y16 y17) (by
  unfold T18l1
  repeat' first | with_reducible exact cC | with_reducible refine cN cR fun _ => ?_ | with_reducible refine cT fun _ => ?_ | with_reducible refine cF ?_ ?_ | with_reducible refine cL fun _ _ => ?_ | with_reducible refine cN cC fun _ => ?_ | with_reducible exact cR | exact cD1 gK gM) h

noncomputable def T13 (O : Orc) (k m q0 q1 : Nat) (y1 : Nat) (y2 : List V) (y3 : Int) : Option V := need (O.R 0 47 [V.int .i64 y3, V.int .i64 1, V.int .i64 6]) fun x1 => asTup (some x1) fun x2 =>
 PI.asBool x2[0]? fun x3 => bif !x3 then some (V.tup [V.int .i64 3]) else bif (↑y1 : Int) == 0 then some (V.tup [V.int .i64 4]) else bif decide ((↑y1 : Int) > 24) then some (V.tup [V.int .i64 2]) else
 O.L 0 13 1 [true, true, false, true] [] k [(1, V.ptr 0 0), (23, V.sl y1 y2), (24, V.int .i64 (↑y1 : Int)), (25, V.int .i64 0)] [Ob.box 26 [V.sl y1 y2, V.int .i64 y3] false]
theorem e13 (k m q0 q1 : Nat) (y1 : Nat) (y2 : List V) (y3 : Int) : runV C (k + 1) 13 [V.agg [V.sl y1 y2, V.int .i64 y3]] = T13 (orc C k) k m q0 q1 y1 y2 y3 := by kernel_rfl
theorem E13 (y1 : Nat) (y2 : List V) (y3 : Int) {r : V} (h : T13 (orcE C) 0 0 0 0 y1 y2 y3 = some r) : runE C 13 [V.agg [V.sl y1 y2, V.int .i64 y3]] = some r := ofR (F := fun s => T13 (orc C s.k) s.k
 s.m 0 0 y1 y2 y3) (fun k => e13 k k 0 0 y1 y2 y3) (by
  unfold T13
  repeat' first | with_reducible exact cC | with_reducible refine cN cR fun _ => ?_ | with_reducible refine cT fun _ => ?_ | with_reducible refine cF ?_ ?_ | with_reducible refine cB fun _ => ?_ | with_reducible refine cN cC fun _ => ?_ | with_reducible exact cR | exact cD0 gK) h

noncomputable def T55 (O : Orc) (k m q0 q1 : Nat) (y1 : Nat) (y2 : List V) (y3 : Int) : Option V := both (need (O.R 0 103 [V.agg [V.sl y1 y2, V.int .i64 y3]]) fun x1 => asTup (some x1) fun x2 => asOsl
 x2[0]? fun x3 x4 => both (need (O.R 0 45 [V.agg [V.sl y1 y2, V.int .i64 y3]]) fun x5 => asTup (some x5) fun x6 => asSl x6[0]? fun x7 x8 => O.L 0 55 0 [true, true, false, true] [] k [(1, V.ptr 0 0),
 (2, V.ptr 1 0), (3, V.ref 3), (4, V.sl x7 x8), (5, V.ref 4), (17, V.sl y1 y2), (18, V.int .i64 (↑y1 : Int)), (19, V.int .i64 0)] [Ob.box 26 [V.sl y1 y2, V.int .i64 y3] false, Ob.box 26 [V.ref 2, V.int
 .i64 0] false, Ob.nrow [] 28 0 [], Ob.row 2 x3 x4 false, Ob.row 28 0 [] false]) (need (O.R 0 45 [V.agg [V.sl y1 y2, V.int .i64 y3]]) fun x9 => asTup (some x9) fun x10 => asSl x10[0]? fun x11 x12 =>
 O.L 0 55 0 [true, true, false, true] [] k [(1, V.ptr 0 0), (2, V.ptr 1 0), (3, V.ref 3), (4, V.sl x11 x12), (5, V.ref 4), (17, V.sl y1 y2), (18, V.int .i64 (↑y1 : Int)), (19, V.int .i64 0)] [Ob.box 26
 [V.sl y1 y2, V.int .i64 y3] false, Ob.box 26 [V.ref 2, V.int .i64 0] false, Ob.nrow [] 28 0 [], Ob.row 2 x3 x4 false, Ob.row 28 0 [] false])) (need (O.R 0 103 [V.agg [V.sl y1 y2, V.int .i64 y3]]) fun
 x13 => asTup (some x13) fun x14 => asOsl x14[0]? fun x15 x16 => need (O.R 0 45 [V.agg [V.sl y1 y2, V.int .i64 y3]]) fun x17 => asTup (some x17) fun x18 => asSl x18[0]? fun x19 x20 => O.L 0 55 0 [true,
 true, false, true] [] k [(1, V.ptr 0 0), (2, V.ptr 1 0), (3, V.ref 3), (4, V.sl x19 x20), (5, V.ref 4), (17, V.sl y1 y2), (18, V.int .i64 (↑y1 : Int)), (19, V.int .i64 0)] [Ob.box 26 [V.sl y1 y2,
 V.int .i64 y3] false, Ob.box 26 [V.ref 2, V.int .i64 0] false, Ob.nrow [] 28 0 [], Ob.row 2 x15 x16 false, Ob.row 28 0 [] false])
theorem e55 (k m q0 q1 : Nat) (y1 : Nat) (y2 : List V) (y3 : Int) : runV C (k + 1) 55 [V.agg [V.sl y1 y2, V.int .i64 y3]] = T55 (orc C k) k m q0 q1 y1 y2 y3 := by kernel_rfl
theorem E55 (y1 : Nat) (y2 : List V) (y3 : Int) {r : V} (h : T55 (orcE C) 0 0 0 0 y1 y2 y3 = some r) : runE C 55 [V.agg [V.sl y1 y2, V.int .i64 y3]] = some r := ofR (F := fun s => T55 (orc C s.k) s.k
 s.m 0 0 y1 y2 y3) (fun k => e55 k k 0 0 y1 y2 y3) (by
  unfold T55
  repeat' first | with_reducible exact cC | with_reducible refine cN cR fun _ => ?_ | with_reducible refine cT fun _ => ?_ | with_reducible refine cL fun _ _ => ?_ | with_reducible refine cO fun _ _ => ?_ | with_reducible refine cN cC fun _ => ?_ | with_reducible refine cW ?_ ?_ | with_reducible exact cR | exact cD0 gK) h

noncomputable def T64 (O : Orc) (k m q0 q1 : Nat) (y1 : Nat) (y2 : List V) (y3 : Nat) (y4 : List V) : Option V := bif (↑y1 : Int) != (↑y3 : Int) then some (V.tup [V.bool false]) else O.L 0 64 0 [true,
 true, false, true] [] k [(0, V.sl y1 y2), (1, V.sl y3 y4), (5, V.int .i64 0)] []
theorem e64 (k m q0 q1 : Nat) (y1 : Nat) (y2 : List V) (y3 : Nat) (y4 : List V) : runV C (k + 1) 64 [V.sl y1 y2, V.sl y3 y4] = T64 (orc C k) k m q0 q1 y1 y2 y3 y4 := by kernel_rfl
theorem E64 (y1 : Nat) (y2 : List V) (y3 : Nat) (y4 : List V) {r : V} (h : T64 (orcE C) 0 0 0 0 y1 y2 y3 y4 = some r) : runE C 64 [V.sl y1 y2, V.sl y3 y4] = some r := ofR (F := fun s => T64 (orc C s.k)
 s.k s.m 0 0 y1 y2 y3 y4) (fun k => e64 k k 0 0 y1 y2 y3 y4) (by
  unfold T64
  repeat' first | with_reducible exact cC | with_reducible refine cF ?_ ?_ | exact cD0 gK) h

noncomputable def T65 (O : Orc) (k m q0 q1 : Nat) (y1 : Int) (y2 : Nat) (y3 : List V) : Option V := O.X 0 65 [0] [Ob.nrow [] 28 0 []] 0 [true, false, true] [] k [(0, V.ref 0), (1, V.int .i64 y1), (5,
 V.int .i64 0)] [Ob.nrow [] 28 y2 y3]
theorem e65 (k m q0 q1 : Nat) (y1 : Int) (y2 : Nat) (y3 : List V) : runW C (k + 1) 65 [0] [V.ref 0, V.int .i64 y1] [Ob.nrow [] 28 y2 y3] = T65 (orc C k) k m q0 q1 y1 y2 y3 := by kernel_rfl
theorem E65 (y1 : Int) (y2 : Nat) (y3 : List V) {r : V} (h : T65 (orcE C) 0 0 0 0 y1 y2 y3 = some r) : runWE C 65 [0] [V.ref 0, V.int .i64 y1] [Ob.nrow [] 28 y2 y3] = some r := ofW (F := fun s => T65
 (orc C s.k) s.k s.m 0 0 y1 y2 y3) (fun k => e65 k k 0 0 y1 y2 y3) (by
  unfold T65
  repeat' first | with_reducible exact cC | exact cX0 gK) h

noncomputable def T66 (O : Orc) (k m q0 q1 : Nat) (y1 : Nat) (y2 : List V) (y3 : Int) (y4 : Int) : Option V := need (O.R 0 128 [V.sl y1 y2, V.int .i64 y4]) fun x1 => asTup (some x1) fun x2 => PI.asInt
 .i64 x2[0]? fun x3 => bif decide (x3 < 0) then some (V.tup [V.int .i64 (-1)]) else some (V.tup [V.int .i64 x3])
theorem e66 (k m q0 q1 : Nat) (y1 : Nat) (y2 : List V) (y3 : Int) (y4 : Int) : runV C (k + 1) 66 [V.agg [V.sl y1 y2, V.int .i64 y3], V.int .i64 y4] = T66 (orc C k) k m q0 q1 y1 y2 y3 y4 := by
 kernel_rfl
theorem E66 (y1 : Nat) (y2 : List V) (y3 : Int) (y4 : Int) {r : V} (h : T66 (orcE C) 0 0 0 0 y1 y2 y3 y4 = some r) : runE C 66 [V.agg [V.sl y1 y2, V.int .i64 y3], V.int .i64 y4] = some r := ofR (F :=
 fun s => T66 (orc C s.k) s.k s.m 0 0 y1 y2 y3 y4) (fun k => e66 k k 0 0 y1 y2 y3 y4) (by
  unfold T66
  repeat' first | with_reducible exact cC | with_reducible refine cN cR fun _ => ?_ | with_reducible refine cT fun _ => ?_ | with_reducible refine cI fun _ => ?_ | with_reducible refine cF ?_ ?_ | with_reducible refine cN cC fun _ => ?_ | with_reducible exact cR) h

noncomputable def T62l1 (O : Orc) (k m q0 q1 : Nat) (y1 : Nat) (y2 : List V) (y3 : Int) (y4 : Int) : Option V := bif decide (y4 < (↑y1 : Int)) then must (inB y4 y1) (asSl y2[y4.toNat * 6]? fun x1 x2 =>
 PI.asInt .i64 y2[y4.toNat * 6 + 1]? fun x3 => PI.asInt .i64 y2[y4.toNat * 6 + 1 + 1]? fun x4 => PI.asInt .i64 y2[y4.toNat * 6 + 1 + 1 + 1]? fun x5 => asSl y2[y4.toNat * 6 + 1 + 1 + 1 + 1]? fun x6 x7
 => PI.asInt .i64 y2[y4.toNat * 6 + 1 + 1 + 1 + 1 + 1]? fun x8 => need (O.R 0 124 [V.agg [V.sl x1 x2, V.int .i64 x3, V.int .i64 x4, V.int .i64 x5, V.sl x6 x7, V.int .i64 x8], V.int .i64 y3]) fun x9 =>
 asTup (some x9) fun x10 => PI.asInt .i64 x10[0]? fun x11 => bif decide (x11 < 0) then some (V.tup [V.int .i64 (-1)]) else O.L 0 62 0 [true, true, true, false, true] [] m [(0, V.sl y1 y2), (1, V.int
 .i64 x11), (5, V.int .i64 (IntKind.i64.wrap (y4 + 1)))] []) else some (V.tup [V.int .i64 y3])
theorem e62l1 (k m q0 q1 : Nat) (y1 : Nat) (y2 : List V) (y3 : Int) (y4 : Int) : runL C k 62 0 [true, true, true, false, true] [] (m + 1) [(0, V.sl y1 y2), (1, V.int .i64 y3), (5, V.int .i64 y4)] [] =
 T62l1 (orc C k) k m q0 q1 y1 y2 y3 y4 := by kernel_rfl
theorem E62l1 (y1 : Nat) (y2 : List V) (y3 : Int) (y4 : Int) {r : V} (h : T62l1 (orcE C) 0 0 0 0 y1 y2 y3 y4 = some r) : loopE C 62 0 [true, true, true, false, true] [] [(0, V.sl y1 y2), (1, V.int .i64
 y3), (5, V.int .i64 y4)] [] = some r := ofL (j := 0) (F := fun s => T62l1 (orc C s.k) s.k s.m 0 0 y1 y2 y3 y4) (fs0 fun k m => e62l1 k m 0 0 y1 y2 y3 y4) (by
  unfold T62l1
  repeat' first | with_reducible exact cC | with_reducible refine cN cR fun _ => ?_ | with_reducible refine cT fun _ => ?_ | with_reducible refine cI fun _ => ?_ | with_reducible refine cM ?_ | with_reducible refine cF ?_ ?_ | with_reducible refine cL fun _ _ => ?_ | with_reducible refine cN cC fun _ => ?_ | with_reducible exact cR | exact cD0 gM) h

noncomputable def T63l1 (O : Orc) (k m q0 q1 : Nat) (y1 : Nat) (y2 : List V) (y3 : Int) (y4 : Nat) (y5 : List V) : Option V := bif decide (y3 < (↑y1 : Int)) then must (inB y3 y1) (asSl y2[y3.toNat *
 6]? fun x1 x2 => PI.asInt .i64 y2[y3.toNat * 6 + 1]? fun x3 => PI.asInt .i64 y2[y3.toNat * 6 + 1 + 1]? fun x4 => PI.asInt .i64 y2[y3.toNat * 6 + 1 + 1 + 1]? fun x5 => asSl y2[y3.toNat * 6 + 1 + 1 + 1
 + 1]? fun x6 x7 => PI.asInt .i64 y2[y3.toNat * 6 + 1 + 1 + 1 + 1 + 1]? fun x8 => need (O.R 0 125 [V.agg [V.sl x1 x2, V.int .i64 x3, V.int .i64 x4, V.int .i64 x5, V.sl x6 x7, V.int .i64 x8]]) fun x9 =>
 asTup (some x9) fun x10 => asOsl x10[0]? fun x11 x12 => PI.asInt .i64 x10[1]? fun x13 => PI.asInt .i64 x10[2]? fun x14 => PI.asInt .i64 x10[3]? fun x15 => asOsl x10[4]? fun x16 x17 => PI.asInt .i64
 x10[5]? fun x18 => must (inB y3 y4) (must (x12.all flatV) (must (x17.all flatV) (must ([V.own false 5 1 x11 x12, V.int .i64 x13, V.int .i64 x14, V.int .i64 x15, V.own false 5 1 x16 x17, V.int .i64
 x18].length.beq 6 && (y3.toNat * 6 + [V.own false 5 1 x11 x12, V.int .i64 x13, V.int .i64 x14, V.int .i64 x15, V.own false 5 1 x16 x17, V.int .i64 x18].length).ble y5.length) (O.L 0 63 0 [true, true,
 false, true] [] m [(0, V.sl y1 y2), (3, V.ref 0), (4, V.int .i64 (IntKind.i64.wrap (y3 + 1)))] [Ob.nrow [] 28 y4 (splice y5 (y3.toNat * 6) [V.own false 5 1 x11 x12, V.int .i64 x13, V.int .i64 x14,
 V.int .i64 x15, V.own false 5 1 x16 x17, V.int .i64 x18])]))))) else some (V.tup [V.osl y4 y5])
theorem e63l1 (k m q0 q1 : Nat) (y1 : Nat) (y2 : List V) (y3 : Int) (y4 : Nat) (y5 : List V) : runL C k 63 0 [true, true, false, true] [] (m + 1) [(0, V.sl y1 y2), (3, V.ref 0), (4, V.int .i64 y3)]
 [Ob.nrow [] 28 y4 y5] = T63l1 (orc C k) k m q0 q1 y1 y2 y3 y4 y5 := by kernel_rfl
theorem E63l1 (y1 : Nat) (y2 : List V) (y3 : Int) (y4 : Nat) (y5 : List V) {r : V} (h : T63l1 (orcE C) 0 0 0 0 y1 y2 y3 y4 y5 = some r) : loopE C 63 0 [true, true, false, true] [] [(0, V.sl y1 y2), (3,
 V.ref 0), (4, V.int .i64 y3)] [Ob.nrow [] 28 y4 y5] = some r := ofL (j := 0) (F := fun s => T63l1 (orc C s.k) s.k s.m 0 0 y1 y2 y3 y4 y5) (fs0 fun k m => e63l1 k m 0 0 y1 y2 y3 y4 y5) (by
  unfold T63l1
  repeat' first | with_reducible exact cC | with_reducible refine cN cR fun _ => ?_ | with_reducible refine cT fun _ => ?_ | with_reducible refine cI fun _ => ?_ | with_reducible refine cM ?_ | with_reducible refine cF ?_ ?_ | with_reducible refine cL fun _ _ => ?_ | with_reducible refine cO fun _ _ => ?_ | with_reducible refine cN cC fun _ => ?_ | with_reducible exact cR | exact cD0 gM) h

noncomputable def T99 (O : Orc) (k m q0 q1 : Nat) (y1 : Int) (y2 : Int) (y3 : Int) : Option V := bif decide (y1 ≥ y2) then some (V.tup [V.bool (decide (y1 ≤ y3))]) else some (V.tup [V.bool false])
theorem e99 (k m q0 q1 : Nat) (y1 : Int) (y2 : Int) (y3 : Int) : runV C (k + 1) 99 [V.int .i64 y1, V.int .i64 y2, V.int .i64 y3] = T99 (orc C k) k m q0 q1 y1 y2 y3 := by kernel_rfl
theorem E99 (y1 : Int) (y2 : Int) (y3 : Int) {r : V} (h : T99 (orcE C) 0 0 0 0 y1 y2 y3 = some r) : runE C 99 [V.int .i64 y1, V.int .i64 y2, V.int .i64 y3] = some r := ofR (F := fun s => T99 (orc C
 s.k) s.k s.m 0 0 y1 y2 y3) (fun k => e99 k k 0 0 y1 y2 y3) (by
  unfold T99
  repeat' first | with_reducible exact cC | with_reducible refine cF ?_ ?_) h

noncomputable def T42l1 (O : Orc) (k m q0 q1 : Nat) (y1 : Int) (y2 : Nat) (y3 : List V) (y4 : Int) (y5 : Nat) (y6 : List V) : Option V := bif decide (y1 < (↑y2 : Int)) then must (inB y1 y2) (asSl
 y3[y1.toNat * 6]? fun x1 x2 => PI.asInt .i64 y3[y1.toNat * 6 + 1]? fun x3 => PI.asInt .i64 y3[y1.toNat * 6 + 1 + 1]? fun x4 => PI.asInt .i64 y3[y1.toNat * 6 + 1 + 1 + 1]? fun x5 => asSl y3[y1.toNat *
 6 + 1 + 1 + 1 + 1]? fun x6 x7 => PI.asInt .i64 y3[y1.toNat * 6 + 1 + 1 + 1 + 1 + 1]? fun x8 => need (O.R 0 100 [V.agg [V.sl x1 x2, V.int .i64 x3, V.int .i64 x4, V.int .i64 x5, V.sl x6 x7, V.int .i64
 x8]]) fun x9 => asTup (some x9) fun x10 => PI.asInt .i64 x10[0]? fun x11 => bif x11 != 0 then some (V.tup [V.int .i64 x11]) else bif y1 == 0 then must (inB 0 y2) (asSl y3[0]? fun x12 x13 => PI.asInt
 .i64 y3[1]? fun x14 => PI.asInt .i64 y3[2]? fun x15 => PI.asInt .i64 y3[3]? fun x16 => asSl y3[4]? fun x17 x18 => PI.asInt .i64 y3[5]? fun x19 => need (O.R 0 101 [V.agg [V.sl x12 x13, V.int .i64 x14,
 V.int .i64 x15, V.int .i64 x16, V.sl x17 x18, V.int .i64 x19]]) fun x20 => asTup (some x20) fun x21 => PI.asBool x21[0]? fun x22 => bif !x22 then some (V.tup [V.int .i64 1]) else O.L 0 42 0 [true,
 true, true, true, true, false, true] [] m [(1, V.ptr 0 0), (3, V.ref 1), (4, V.int .i64 (IntKind.i64.wrap (y1 + 1)))] [Ob.box 26 [V.sl y2 y3, V.int .i64 y4] false, Ob.nrow [] 22 y5 y6]) else must
 (decide (0 ≤ y1) && decide (y1 ≤ (↑y2 : Int))) (must (decide (0 ≤ y1) && decide (y1 ≤ (↑y5 : Int))) (must (inB y1 y2) (asSl y3[y1.toNat * 6]? fun x23 x24 => PI.asInt .i64 y3[y1.toNat * 6 + 1]? fun x25
 => PI.asInt .i64 y3[y1.toNat * 6 + 1 + 1]? fun x26 => PI.asInt .i64 y3[y1.toNat * 6 + 1 + 1 + 1]? fun x27 => asSl y3[y1.toNat * 6 + 1 + 1 + 1 + 1]? fun x28 x29 => PI.asInt .i64 y3[y1.toNat * 6 + 1 + 1
 + 1 + 1 + 1]? fun x30 => need (O.R 0 102 [V.sl (y1.toNat - 0) (List.take ((y1.toNat - 0) * 6) (List.drop 0 y3)), V.sl (y1.toNat - 0) (List.take ((y1.toNat - 0) * 1) (List.drop 0 (bareL y6))), V.agg
 [V.sl x23 x24, V.int .i64 x25, V.int .i64 x26, V.int .i64 x27, V.sl x28 x29, V.int .i64 x30]]) fun x31 => asTup (some x31) fun x32 => PI.asInt .i64 x32[0]? fun x33 => bif x33 != 0 then some (V.tup
 [V.int .i64 x33]) else O.L 0 42 0 [true, true, true, true, true, false, true] [] m [(1, V.ptr 0 0), (3, V.ref 1), (4, V.int .i64 (IntKind.i64.wrap (y1 + 1)))] [Ob.box 26 [V.sl y2 y3, V.int .i64 y4]
 false, Ob.row 22 y5 (bareL y6) true])))) else some (V.tup [V.int .i64 0])
theorem e42l1 (k m q0 q1 : Nat) (y1 : Int) (y2 : Nat) (y3 : List V) (y4 : Int) (y5 : Nat) (y6 : List V) : runL C k 42 0 [true, true, true, true, true, false, true] [] (m + 1) [(1, V.ptr 0 0), (3, V.ref
 1), (4, V.int .i64 y1)] [Ob.box 26 [V.sl y2 y3, V.int .i64 y4] false, Ob.nrow [] 22 y5 y6] = T42l1 (orc C k) k m q0 q1 y1 y2 y3 y4 y5 y6 := by kernel_rfl
theorem E42l1 (y1 : Int) (y2 : Nat) (y3 : List V) (y4 : Int) (y5 : Nat) (y6 : List V) {r : V} (h : T42l1 (orcE C) 0 0 0 0 y1 y2 y3 y4 y5 y6 = some r) : loopE C 42 0 [true, true, true, true, true,
 false, true] [] [(1, V.ptr 0 0), (3, V.ref 1), (4, V.int .i64 y1)] [Ob.box 26 [V.sl y2 y3, V.int .i64 y4] false, Ob.nrow [] 22 y5 y6] = some r := ofL (j := 0) (F := fun s => T42l1 (orc C s.k) s.k s.m
 0 0 y1 y2 y3 y4 y5 y6) (fs0 fun k m => e42l1 k m 0 0 y1 y2 y3 y4 y5 y6) (by
  unfold T42l1
  repeat' first | with_reducible exact cC | with_reducible refine cN cR fun _ => ?_ | with_reducible refine cT fun _ => ?_ | with_reducible refine cI fun _ => ?_ | with_reducible refine cM ?_ | with_reducible refine cF ?_ ?_ | with_reducible refine cB fun _ => ?_ | with_reducible refine cL fun _ _ => ?_ | with_reducible refine cN cC fun _ => ?_ | with_reducible exact cR | exact cD0 gM) h

noncomputable def T121 (O : Orc) (k m q0 q1 : Nat) (y1 : Nat) (y2 : List V) (y3 : Nat) (y4 : List V) : Option V := O.L 0 121 0 [true, true, true, false, true] [] k [(0, V.sl y1 y2), (1, V.sl y3 y4),
 (5, V.int .i64 0), (6, V.int .i64 (-1)), (7, V.int .i64 0)] []
theorem e121 (k m q0 q1 : Nat) (y1 : Nat) (y2 : List V) (y3 : Nat) (y4 : List V) : runV C (k + 1) 121 [V.sl y1 y2, V.sl y3 y4] = T121 (orc C k) k m q0 q1 y1 y2 y3 y4 := by kernel_rfl
theorem E121 (y1 : Nat) (y2 : List V) (y3 : Nat) (y4 : List V) {r : V} (h : T121 (orcE C) 0 0 0 0 y1 y2 y3 y4 = some r) : runE C 121 [V.sl y1 y2, V.sl y3 y4] = some r := ofR (F := fun s => T121 (orc C
 s.k) s.k s.m 0 0 y1 y2 y3 y4) (fun k => e121 k k 0 0 y1 y2 y3 y4) (by
  unfold T121
  repeat' first | with_reducible exact cC | exact cD0 gK) h

noncomputable def T59 (O : Orc) (k m q0 q1 : Nat) (y1 : Nat) (y2 : List V) (y3 : Nat) (y4 : List V) (y5 : Int) : Option V := O.L 0 59 0 [true, true, false] [] k [(0, V.sl y1 y2), (1, V.sl y3 y4), (2,
 V.int .i64 y5), (7, V.ref 0)] [Ob.row 2 1 [V.int .i64 y5] false]
theorem e59 (k m q0 q1 : Nat) (y1 : Nat) (y2 : List V) (y3 : Nat) (y4 : List V) (y5 : Int) : runV C (k + 1) 59 [V.sl y1 y2, V.sl y3 y4, V.int .i64 y5] = T59 (orc C k) k m q0 q1 y1 y2 y3 y4 y5 := by
 kernel_rfl
theorem E59 (y1 : Nat) (y2 : List V) (y3 : Nat) (y4 : List V) (y5 : Int) {r : V} (h : T59 (orcE C) 0 0 0 0 y1 y2 y3 y4 y5 = some r) : runE C 59 [V.sl y1 y2, V.sl y3 y4, V.int .i64 y5] = some r := ofR
 (F := fun s => T59 (orc C s.k) s.k s.m 0 0 y1 y2 y3 y4 y5) (fun k => e59 k k 0 0 y1 y2 y3 y4 y5) (by
  unfold T59
  repeat' first | with_reducible exact cC | exact cD0 gK) h

noncomputable def T57l1 (O : Orc) (k m q0 q1 : Nat) (y1 : Nat) (y2 : List V) (y3 : Int) (y4 : Int) (y5 : Nat) (y6 : List V) (y7 : Int) (y8 : Nat) (y9 : List V) : Option V := bif decide (y4 < (↑y1 :
 Int)) then must (inB y4 y1) (PI.asInt .i64 y2[y4.toNat * 1]? fun x1 => must (inB x1 y5) (PI.asInt .i64 y6[x1.toNat * 6 + 1]? fun x2 => bif decide (x2 ≤ IntKind.i64.wrap (y3 - y7)) then must (inB y4
 y1) (PI.asInt .i64 y2[y4.toNat * 1]? fun x3 => must (true && (y8 + 1).ble 140737488355328 && ((y8 + 1) * 8).ble 140737488355328) (O.X 0 57 [] [Ob.box 26 [V.u, V.u] false] 0 [true, true, true, true,
 false, true] [] m [(0, V.ptr 0 0), (3, V.sl y1 y2), (4, V.int .i64 y3), (5, V.ref 1), (6, V.int .i64 (IntKind.i64.wrap (y4 + 1)))] [Ob.box 26 [V.sl y5 y6, V.int .i64 y7] false, Ob.row 2 (y8 + 1) (y9
 ++ [V.int .i64 x3]) false])) else O.X 0 57 [] [Ob.box 26 [V.u, V.u] false] 0 [true, true, true, true, false, true] [] m [(0, V.ptr 0 0), (3, V.sl y1 y2), (4, V.int .i64 y3), (5, V.ref 1), (6, V.int
 .i64 (IntKind.i64.wrap (y4 + 1)))] [Ob.box 26 [V.sl y5 y6, V.int .i64 y7] false, Ob.row 2 y8 y9 false])) else some (V.tup [V.sl y8 y9, V.sl y5 y6, V.int .i64 y7])
theorem e57l1 (k m q0 q1 : Nat) (y1 : Nat) (y2 : List V) (y3 : Int) (y4 : Int) (y5 : Nat) (y6 : List V) (y7 : Int) (y8 : Nat) (y9 : List V) : runLW C k 57 [] [Ob.box 26 [V.u, V.u] false] 0 [true, true,
 true, true, false, true] [] (m + 1) [(0, V.ptr 0 0), (3, V.sl y1 y2), (4, V.int .i64 y3), (5, V.ref 1), (6, V.int .i64 y4)] [Ob.box 26 [V.sl y5 y6, V.int .i64 y7] false, Ob.row 2 y8 y9 false] = T57l1
 (orc C k) k m q0 q1 y1 y2 y3 y4 y5 y6 y7 y8 y9 := by kernel_rfl
theorem E57l1 (y1 : Nat) (y2 : List V) (y3 : Int) (y4 : Int) (y5 : Nat) (y6 : List V) (y7 : Int) (y8 : Nat) (y9 : List V) {r : V} (h : T57l1 (orcE C) 0 0 0 0 y1 y2 y3 y4 y5 y6 y7 y8 y9 = some r) :
 loopWE C 57 [] [Ob.box 26 [V.u, V.u] false] 0 [true, true, true, true, false, true] [] [(0, V.ptr 0 0), (3, V.sl y1 y2), (4, V.int .i64 y3), (5, V.ref 1), (6, V.int .i64 y4)] [Ob.box 26 [V.sl y5 y6,
 V.int .i64 y7] false, Ob.row 2 y8 y9 false] = some r := ofX (j := 0) (F := fun s => T57l1 (orc C s.k) s.k s.m 0 0 y1 y2 y3 y4 y5 y6 y7 y8 y9) (fs0 fun k m => e57l1 k m 0 0 y1 y2 y3 y4 y5 y6 y7 y8 y9) (by
  unfold T57l1
  repeat' first | with_reducible exact cC | with_reducible refine cI fun _ => ?_ | with_reducible refine cM ?_ | with_reducible refine cF ?_ ?_ | exact cX0 gM) h

noncomputable def T58l1 (O : Orc) (k m q0 q1 : Nat) (y1 : Nat) (y2 : List V) (y3 : Int) (y4 : Nat) (y5 : List V) : Option V := bif decide (y3 < (↑y1 : Int)) then must (inB y3 y1) (asSl y2[y3.toNat *
 6]? fun x1 x2 => PI.asInt .i64 y2[y3.toNat * 6 + 1]? fun x3 => PI.asInt .i64 y2[y3.toNat * 6 + 1 + 1]? fun x4 => PI.asInt .i64 y2[y3.toNat * 6 + 1 + 1 + 1]? fun x5 => asSl y2[y3.toNat * 6 + 1 + 1 + 1
 + 1]? fun x6 x7 => PI.asInt .i64 y2[y3.toNat * 6 + 1 + 1 + 1 + 1 + 1]? fun x8 => need (O.R 0 122 [V.agg [V.sl x1 x2, V.int .i64 x3, V.int .i64 x4, V.int .i64 x5, V.sl x6 x7, V.int .i64 x8]]) fun x9 =>
 asTup (some x9) fun x10 => asOsl x10[0]? fun x11 x12 => must (x12.all flatV) (must (true && (y4 + 1).ble 140737488355328 && ((y4 + 1) * 24).ble 140737488355328) (O.L 0 58 0 [true, true, false, true]
 [] m [(0, V.sl y1 y2), (3, V.ref 0), (4, V.int .i64 (IntKind.i64.wrap (y3 + 1)))] [Ob.nrow [] 22 (y4 + 1) (y5 ++ [V.own false 5 1 x11 x12])]))) else some (V.tup [V.osl y4 y5])
theorem e58l1 (k m q0 q1 : Nat) (y1 : Nat) (y2 : List V) (y3 : Int) (y4 : Nat) (y5 : List V) : runL C k 58 0 [true, true, false, true] [] (m + 1) [(0, V.sl y1 y2), (3, V.ref 0), (4, V.int .i64 y3)]
 [Ob.nrow [] 22 y4 y5] = T58l1 (orc C k) k m q0 q1 y1 y2 y3 y4 y5 := by kernel_rfl
theorem E58l1 (y1 : Nat) (y2 : List V) (y3 : Int) (y4 : Nat) (y5 : List V) {r : V} (h : T58l1 (orcE C) 0 0 0 0 y1 y2 y3 y4 y5 = some r) : loopE C 58 0 [true, true, false, true] [] [(0, V.sl y1 y2), (3,
 V.ref 0), (4, V.int .i64 y3)] [Ob.nrow [] 22 y4 y5] = some r := ofL (j := 0) (F := fun s => T58l1 (orc C s.k) s.k s.m 0 0 y1 y2 y3 y4 y5) (fs0 fun k m => e58l1 k m 0 0 y1 y2 y3 y4 y5) (by
  unfold T58l1
  repeat' first | with_reducible exact cC | with_reducible refine cN cR fun _ => ?_ | with_reducible refine cT fun _ => ?_ | with_reducible refine cI fun _ => ?_ | with_reducible refine cM ?_ | with_reducible refine cF ?_ ?_ | with_reducible refine cL fun _ _ => ?_ | with_reducible refine cO fun _ _ => ?_ | with_reducible refine cN cC fun _ => ?_ | with_reducible exact cR | exact cD0 gM) h

noncomputable def T18l2 (O : Orc) (k m q0 q1 : Nat) (y1 : Nat) (y2 : List V) (y3 : Nat) (y4 : List V) (y5 : Int) (y6 : Nat) (y7 : List V) (y8 : Int) (y9 : Int) (y10 : Nat) (y11 : List V) (y12 : Int)
 (y13 : Int) (y14 : Int) (y15 : Nat) (y16 : List V) (y17 : Nat) (y18 : List V) (y19 : Int) (y20 : Nat) (y21 : List V) : Option V := bif decide (y9 < (↑y6 : Int)) then must (inB y9 y6) (PI.asInt .i64
 y7[y9.toNat * 1]? fun x1 => need (O.R 0 60 [V.sl y1 y2, V.int .i64 x1]) fun x2 => asTup (some x2) fun x3 => PI.asBool x3[0]? fun x4 => bif x4 then must (inB y9 y6) (PI.asInt .i64 y7[y9.toNat * 1]? fun
 x5 => O.L 0 18 2 [true, true, true, true, true, true, false, true, false, true, false, false, true, true, false, true] [q0] m [(1, V.ptr 0 0), (2, V.ptr 1 0), (4, V.sl y1 y2), (5, V.sl y3 y4), (6,
 V.ref 3), (7, V.ptr 4 0), (8, V.int .i64 y5), (9, V.sl y6 y7), (10, V.int .i64 x5), (11, V.int .i64 (IntKind.i64.wrap (y9 + 1)))] [Ob.box 26 [V.sl y10 y11, V.int .i64 y12] false, Ob.box 32 [V.int .i64
 y13, V.ref 2, V.int .i64 y14] false, Ob.nrow [] 28 y15 y16, Ob.row 22 y17 y18 true, Ob.box 26 [V.ref 5, V.int .i64 y19] false, Ob.nrow [] 28 y20 y21]) else O.L 0 18 2 [true, true, true, true, true,
 true, false, true, false, true, false, false, true, true, false, true] [q0] m [(1, V.ptr 0 0), (2, V.ptr 1 0), (4, V.sl y1 y2), (5, V.sl y3 y4), (6, V.ref 3), (7, V.ptr 4 0), (8, V.int .i64 y5), (9,
 V.sl y6 y7), (10, V.int .i64 y8), (11, V.int .i64 (IntKind.i64.wrap (y9 + 1)))] [Ob.box 26 [V.sl y10 y11, V.int .i64 y12] false, Ob.box 32 [V.int .i64 y13, V.ref 2, V.int .i64 y14] false, Ob.nrow []
 28 y15 y16, Ob.row 22 y17 y18 true, Ob.box 26 [V.ref 5, V.int .i64 y19] false, Ob.nrow [] 28 y20 y21]) else need (O.R 0 60 [V.sl y1 y2, V.int .i64 y5]) fun x6 => asTup (some x6) fun x7 => PI.asBool
 x7[0]? fun x8 => bif x8 then must (inB y5 y10) (asSl y11[y5.toNat * 6]? fun x9 x10 => PI.asInt .i64 y11[y5.toNat * 6 + 1]? fun x11 => PI.asInt .i64 y11[y5.toNat * 6 + 1 + 1]? fun x12 => PI.asInt .i64
 y11[y5.toNat * 6 + 1 + 1 + 1]? fun x13 => asSl y11[y5.toNat * 6 + 1 + 1 + 1 + 1]? fun x14 x15 => PI.asInt .i64 y11[y5.toNat * 6 + 1 + 1 + 1 + 1 + 1]? fun x16 => need (O.R 0 61 [V.agg [V.sl x9 x10,
 V.int .i64 x11, V.int .i64 x12, V.int .i64 x13, V.sl x14 x15, V.int .i64 x16]]) fun x17 => asTup (some x17) fun x18 => asOsl x18[0]? fun x19 x20 => PI.asInt .i64 x18[1]? fun x21 => PI.asInt .i64
 x18[2]? fun x22 => PI.asInt .i64 x18[3]? fun x23 => asOsl x18[4]? fun x24 x25 => PI.asInt .i64 x18[5]? fun x26 => must (x20.all flatV) (must (x25.all flatV) (must (true && (y20 + 1).ble
 140737488355328 && ((y20 + 1) * 80).ble 140737488355328) (O.L 0 18 0 [true, true, true, true, true, true, false, true] [] q0 [(1, V.ptr 0 0), (2, V.ptr 1 0), (4, V.sl y1 y2), (5, V.sl y3 y4), (6,
 V.ref 3), (7, V.ptr 4 0), (8, V.int .i64 (IntKind.i64.wrap (y5 + 1)))] [Ob.box 26 [V.sl y10 y11, V.int .i64 y12] false, Ob.box 32 [V.int .i64 y13, V.ref 2, V.int .i64 y14] false, Ob.nrow [] 28 y15
 y16, Ob.row 22 y17 y18 true, Ob.box 26 [V.ref 5, V.int .i64 y19] false, Ob.nrow [] 28 (y20 + 1) (y21 ++ [V.own false 5 1 x19 x20, V.int .i64 x21, V.int .i64 x22, V.int .i64 x23, V.own false 5 1 x24
 x25, V.int .i64 x26])])))) else need (O.R 0 60 [V.sl y3 y4, V.int .i64 y8]) fun x27 => asTup (some x27) fun x28 => PI.asBool x28[0]? fun x29 => bif !x29 then must (inB y5 y10) (asSl y11[y5.toNat * 6]?
 fun x30 x31 => PI.asInt .i64 y11[y5.toNat * 6 + 1]? fun x32 => PI.asInt .i64 y11[y5.toNat * 6 + 1 + 1]? fun x33 => PI.asInt .i64 y11[y5.toNat * 6 + 1 + 1 + 1]? fun x34 => asSl y11[y5.toNat * 6 + 1 + 1
 + 1 + 1]? fun x35 x36 => PI.asInt .i64 y11[y5.toNat * 6 + 1 + 1 + 1 + 1 + 1]? fun x37 => need (O.R 0 61 [V.agg [V.sl x30 x31, V.int .i64 x32, V.int .i64 x33, V.int .i64 x34, V.sl x35 x36, V.int .i64
 x37]]) fun x38 => asTup (some x38) fun x39 => asOsl x39[0]? fun x40 x41 => PI.asInt .i64 x39[1]? fun x42 => PI.asInt .i64 x39[2]? fun x43 => PI.asInt .i64 x39[3]? fun x44 => asOsl x39[4]? fun x45 x46
 => PI.asInt .i64 x39[5]? fun x47 => must (x41.all flatV) (must (x46.all flatV) (must (true && (y20 + 1).ble 140737488355328 && ((y20 + 1) * 80).ble 140737488355328) (O.L 0 18 0 [true, true, true,
 true, true, true, false, true] [] q0 [(1, V.ptr 0 0), (2, V.ptr 1 0), (4, V.sl y1 y2), (5, V.sl y3 y4), (6, V.ref 3), (7, V.ptr 4 0), (8, V.int .i64 (IntKind.i64.wrap (y5 + 1)))] [Ob.box 26 [V.sl y10
 y11, V.int .i64 y12] false, Ob.box 32 [V.int .i64 y13, V.ref 2, V.int .i64 y14] false, Ob.nrow [] 28 y15 y16, Ob.row 22 y17 y18 true, Ob.box 26 [V.ref 5, V.int .i64 y19] false, Ob.nrow [] 28 (y20 + 1)
 (y21 ++ [V.own false 5 1 x40 x41, V.int .i64 x42, V.int .i64 x43, V.int .i64 x44, V.own false 5 1 x45 x46, V.int .i64 x47])])))) else O.L 0 18 0 [true, true, true, true, true, true, false, true] [] q0
 [(1, V.ptr 0 0), (2, V.ptr 1 0), (4, V.sl y1 y2), (5, V.sl y3 y4), (6, V.ref 3), (7, V.ptr 4 0), (8, V.int .i64 (IntKind.i64.wrap (y5 + 1)))] [Ob.box 26 [V.sl y10 y11, V.int .i64 y12] false, Ob.box 32
 [V.int .i64 y13, V.ref 2, V.int .i64 y14] false, Ob.nrow [] 28 y15 y16, Ob.row 22 y17 y18 true, Ob.box 26 [V.ref 5, V.int .i64 y19] false, Ob.nrow [] 28 y20 y21]
theorem e18l2 (k m q0 q1 : Nat) (y1 : Nat) (y2 : List V) (y3 : Nat) (y4 : List V) (y5 : Int) (y6 : Nat) (y7 : List V) (y8 : Int) (y9 : Int) (y10 : Nat) (y11 : List V) (y12 : Int) (y13 : Int) (y14 :
 Int) (y15 : Nat) (y16 : List V) (y17 : Nat) (y18 : List V) (y19 : Int) (y20 : Nat) (y21 : List V) : runL C k 18 2 [true, true, true, true, true, true, false, true, false, true, false, false, true,
 true, false, true] [q0] (m + 1) [(1, V.ptr 0 0), (2, V.ptr 1 0), (4, V.sl y1 y2), (5, V.sl y3 y4), (6, V.ref 3), (7, V.ptr 4 0), (8, V.int .i64 y5), (9, V.sl y6 y7), (10, V.int .i64 y8), (11, V.int
 .i64 y9)] [Ob.box 26 [V.sl y10 y11, V.int .i64 y12] false, Ob.box 32 [V.int .i64 y13, V.ref 2, V.int .i64 y14] false, Ob.nrow [] 28 y15 y16, Ob.row 22 y17 y18 true, Ob.box 26 [V.ref 5, V.int .i64 y19]
 false, Ob.nrow [] 28 y20 y21] = T18l2 (orc C k) k m q0 q1 y1 y2 y3 y4 y5 y6 y7 y8 y9 y10 y11 y12 y13 y14 y15 y16 y17 y18 y19 y20 y21 := by kernel_rfl
theorem E18l2 (y1 : Nat) (y2 : List V) (y3 : Nat) (y4 : List V) (y5 : Int) (y6 : Nat) (y7 : List V) (y8 : Int) (y9 : Int) (y10 : Nat) (y11 : List V) (y12 : Int) (y13 : Int) (y14 : Int) (y15 : Nat) (y16
 : List V) (y17 : Nat) (y18 : List V) (y19 : Int) (y20 : Nat) (y21 : List V) {r : V} (h : T18l2 (orcE C) 0 0 0 0 y1 y2 y3 y4 y5 y6 y7 y8 y9 y10 y11 y12 y13 y14 y15 y16 y17 y18 y19 y20 y21 = some r) :
 loopE C 18 2 [true, true, true, true, true, true, false, true, false, true, false, false, true, true, false, true] [0] [(1, V.ptr 0 0), (2, V.ptr 1 0), (4, V.sl y1 y2), (5, V.sl y3 y4), (6, V.ref 3),
 (7, V.ptr 4 0), (8, V.int .i64 y5), (9, V.sl y6 y7), (10, V.int .i64 y8), (11, V.int .i64 y9)] [Ob.box 26 [V.sl y10 y11, V.int .i64 y12] false, Ob.box 32 [V.int .i64 y13, V.ref 2, V.int .i64 y14]
 false, Ob.nrow [] 28 y15 y16, Ob.row 22 y17 y18 true, Ob.box 26 [V.ref 5, V.int .i64 y19] false, Ob.nrow [] 28 y20 y21] = some r := ofL (j := 0) (F := fun s => T18l2 (orc C s.k) s.k s.m (s.fs.getD 0
 0) 0 y1 y2 y3 y4 y5 y6 y7 y8 y9 y10 y11 y12 y13 y14 y15 y16 y17 y18 y19 y20 y21) (fs1 fun k m q0 => e18l2 k m q0 0 y1 y2 y3 y4 y5 y6 y7 y8 y9 y10 y11 y12 y13 y14 y15 y16 y17 y18 y19 y20 y21) (by
  unfold T18l2
  repeat' first | with_reducible exact cC | with_reducible refine cN cR fun _ => ?_ | with_reducible refine cT fun _ => ?_ | with_reducible refine cI fun _ => ?_ | with_reducible refine cM ?_ | with_reducible refine cF ?_ ?_ | with_reducible refine cB fun _ => ?_ | with_reducible refine cL fun _ _ => ?_ | with_reducible refine cO fun _ _ => ?_ | with_reducible refine cN cC fun _ => ?_ | with_reducible exact cR | exact cD0 (gF (i := 0) (by decide)) | exact cD1 gM (gF (i := 0) (by decide))) h

noncomputable def T47 (O : Orc) (k m q0 q1 : Nat) (y1 : Int) (y2 : Int) (y3 : Int) : Option V := bif decide (y2 ≤ y1) then some (V.tup [V.bool (decide (y1 ≤ y3))]) else some (V.tup [V.bool false])
theorem e47 (k m q0 q1 : Nat) (y1 : Int) (y2 : Int) (y3 : Int) : runV C (k + 1) 47 [V.int .i64 y1, V.int .i64 y2, V.int .i64 y3] = T47 (orc C k) k m q0 q1 y1 y2 y3 := by kernel_rfl
theorem E47 (y1 : Int) (y2 : Int) (y3 : Int) {r : V} (h : T47 (orcE C) 0 0 0 0 y1 y2 y3 = some r) : runE C 47 [V.int .i64 y1, V.int .i64 y2, V.int .i64 y3] = some r := ofR (F := fun s => T47 (orc C
 s.k) s.k s.m 0 0 y1 y2 y3) (fun k => e47 k k 0 0 y1 y2 y3) (by
  unfold T47
  repeat' first | with_reducible exact cC | with_reducible refine cF ?_ ?_) h

noncomputable def T13l1 (O : Orc) (k m q0 q1 : Nat) (y1 : Nat) (y2 : List V) (y3 : Int) (y4 : Int) (y5 : Nat) (y6 : List V) (y7 : Int) : Option V := bif decide (y4 < y3) then must (inB y4 y1) (asSl
 y2[y4.toNat * 6]? fun x1 x2 => PI.asInt .i64 y2[y4.toNat * 6 + 1]? fun x3 => PI.asInt .i64 y2[y4.toNat * 6 + 1 + 1]? fun x4 => PI.asInt .i64 y2[y4.toNat * 6 + 1 + 1 + 1]? fun x5 => asSl y2[y4.toNat *
 6 + 1 + 1 + 1 + 1]? fun x6 x7 => PI.asInt .i64 y2[y4.toNat * 6 + 1 + 1 + 1 + 1 + 1]? fun x8 => need (O.R 0 48 [V.agg [V.sl x1 x2, V.int .i64 x3, V.int .i64 x4, V.int .i64 x5, V.sl x6 x7, V.int .i64
 x8]]) fun x9 => asTup (some x9) fun x10 => PI.asInt .i64 x10[0]? fun x11 => bif x11 != 0 then some (V.tup [V.int .i64 x11]) else bif y4 == 0 then need (O.R 0 49 [V.agg [V.sl x1 x2, V.int .i64 x3,
 V.int .i64 x4, V.int .i64 x5, V.sl x6 x7, V.int .i64 x8]]) fun x12 => asTup (some x12) fun x13 => PI.asBool x13[0]? fun x14 => bif !x14 then some (V.tup [V.int .i64 1]) else O.L 0 13 1 [true, true,
 false, true] [] m [(1, V.ptr 0 0), (23, V.sl y1 y2), (24, V.int .i64 y3), (25, V.int .i64 (IntKind.i64.wrap (y4 + 1)))] [Ob.box 26 [V.sl y5 y6, V.int .i64 y7] false] else must (decide (0 ≤ y4) &&
 decide (y4 ≤ (↑y5 : Int))) (need (O.R 0 50 [V.sl (y4.toNat - 0) (List.take ((y4.toNat - 0) * 6) (List.drop 0 y6)), V.agg [V.sl x1 x2, V.int .i64 x3, V.int .i64 x4, V.int .i64 x5, V.sl x6 x7, V.int
 .i64 x8]]) fun x15 => asTup (some x15) fun x16 => PI.asInt .i64 x16[0]? fun x17 => bif x17 != 0 then some (V.tup [V.int .i64 x17]) else O.L 0 13 1 [true, true, false, true] [] m [(1, V.ptr 0 0), (23,
 V.sl y1 y2), (24, V.int .i64 y3), (25, V.int .i64 (IntKind.i64.wrap (y4 + 1)))] [Ob.box 26 [V.sl y5 y6, V.int .i64 y7] false])) else some (V.tup [V.int .i64 0])
theorem e13l1 (k m q0 q1 : Nat) (y1 : Nat) (y2 : List V) (y3 : Int) (y4 : Int) (y5 : Nat) (y6 : List V) (y7 : Int) : runL C k 13 1 [true, true, false, true] [] (m + 1) [(1, V.ptr 0 0), (23, V.sl y1
 y2), (24, V.int .i64 y3), (25, V.int .i64 y4)] [Ob.box 26 [V.sl y5 y6, V.int .i64 y7] false] = T13l1 (orc C k) k m q0 q1 y1 y2 y3 y4 y5 y6 y7 := by kernel_rfl
theorem E13l1 (y1 : Nat) (y2 : List V) (y3 : Int) (y4 : Int) (y5 : Nat) (y6 : List V) (y7 : Int) {r : V} (h : T13l1 (orcE C) 0 0 0 0 y1 y2 y3 y4 y5 y6 y7 = some r) : loopE C 13 1 [true, true, false,
 true] [] [(1, V.ptr 0 0), (23, V.sl y1 y2), (24, V.int .i64 y3), (25, V.int .i64 y4)] [Ob.box 26 [V.sl y5 y6, V.int .i64 y7] false] = some r := ofL (j := 0) (F := fun s => T13l1 (orc C s.k) s.k s.m 0
 0 y1 y2 y3 y4 y5 y6 y7) (fs0 fun k m => e13l1 k m 0 0 y1 y2 y3 y4 y5 y6 y7) (by
  unfold T13l1
  repeat' first | with_reducible exact cC | with_reducible refine cN cR fun _ => ?_ | with_reducible refine cT fun _ => ?_ | with_reducible refine cI fun _ => ?_ | with_reducible refine cM ?_ | with_reducible refine cF ?_ ?_ | with_reducible refine cB fun _ => ?_ | with_reducible refine cL fun _ _ => ?_ | with_reducible refine cN cC fun _ => ?_ | with_reducible exact cR | exact cD0 gM) h

noncomputable def T103 (O : Orc) (k m q0 q1 : Nat) (y1 : Nat) (y2 : List V) (y3 : Int) : Option V := need (O.R 0 46 [V.sl y1 y2]) fun x1 => asTup (some x1) fun x2 => PI.asInt .i64 x2[0]? fun x3 => need
 (O.R 0 107 [V.sl y1 y2, V.int .i64 x3]) fun x4 => asTup (some x4) fun x5 => asOsl x5[0]? fun x6 x7 => must (false || x7.all flatV) (some (V.tup [V.osl x6 x7]))
theorem e103 (k m q0 q1 : Nat) (y1 : Nat) (y2 : List V) (y3 : Int) : runV C (k + 1) 103 [V.agg [V.sl y1 y2, V.int .i64 y3]] = T103 (orc C k) k m q0 q1 y1 y2 y3 := by kernel_rfl
theorem E103 (y1 : Nat) (y2 : List V) (y3 : Int) {r : V} (h : T103 (orcE C) 0 0 0 0 y1 y2 y3 = some r) : runE C 103 [V.agg [V.sl y1 y2, V.int .i64 y3]] = some r := ofR (F := fun s => T103 (orc C s.k)
 s.k s.m 0 0 y1 y2 y3) (fun k => e103 k k 0 0 y1 y2 y3) (by
  unfold T103
  repeat' first | with_reducible exact cC | with_reducible refine cN cR fun _ => ?_ | with_reducible refine cT fun _ => ?_ | with_reducible refine cI fun _ => ?_ | with_reducible refine cM ?_ | with_reducible refine cO fun _ _ => ?_ | with_reducible refine cN cC fun _ => ?_ | with_reducible exact cR) h

noncomputable def T45 (O : Orc) (k m q0 q1 : Nat) (y1 : Nat) (y2 : List V) (y3 : Int) : Option V := need (O.R 0 103 [V.agg [V.sl y1 y2, V.int .i64 y3]]) fun x1 => asTup (some x1) fun x2 => asOsl x2[0]?
 fun x3 x4 => must (inB (IntKind.i64.wrap ((↑x3 : Int) - 1)) x3) (PI.asInt .i64 x4[(IntKind.i64.wrap ((↑x3 : Int) - 1)).toNat * 1]? fun x5 => must (inB x5 y1) (asSl y2[x5.toNat * 6]? fun x6 x7 =>
 PI.asInt .i64 y2[x5.toNat * 6 + 1]? fun x8 => PI.asInt .i64 y2[x5.toNat * 6 + 1 + 1]? fun x9 => PI.asInt .i64 y2[x5.toNat * 6 + 1 + 1 + 1]? fun x10 => asSl y2[x5.toNat * 6 + 1 + 1 + 1 + 1]? fun x11
 x12 => PI.asInt .i64 y2[x5.toNat * 6 + 1 + 1 + 1 + 1 + 1]? fun x13 => need (O.W 0 104 [] [V.ref 0, V.fn 105 [V.ptr 1 0, V.ptr 2 0]] [Ob.row 2 x3 x4 false, Ob.box 26 [V.sl y1 y2, V.int .i64 y3] false,
 Ob.box 28 [V.sl x6 x7, V.int .i64 x8, V.int .i64 x9, V.int .i64 x10, V.sl x11 x12, V.int .i64 x13] false]) fun x14 => asTup (some x14) fun x15 => asSl x15[0]? fun x16 x17 => asSl x15[1]? fun x18 x19
 => PI.asInt .i64 x15[2]? fun x20 => asSl x15[3]? fun x21 x22 => PI.asInt .i64 x15[4]? fun x23 => PI.asInt .i64 x15[5]? fun x24 => PI.asInt .i64 x15[6]? fun x25 => asSl x15[7]? fun x26 x27 => PI.asInt
 .i64 x15[8]? fun x28 => some (V.tup [V.sl x16 x17])))
theorem e45 (k m q0 q1 : Nat) (y1 : Nat) (y2 : List V) (y3 : Int) : runV C (k + 1) 45 [V.agg [V.sl y1 y2, V.int .i64 y3]] = T45 (orc C k) k m q0 q1 y1 y2 y3 := by kernel_rfl
theorem E45 (y1 : Nat) (y2 : List V) (y3 : Int) {r : V} (h : T45 (orcE C) 0 0 0 0 y1 y2 y3 = some r) : runE C 45 [V.agg [V.sl y1 y2, V.int .i64 y3]] = some r := ofR (F := fun s => T45 (orc C s.k) s.k
 s.m 0 0 y1 y2 y3) (fun k => e45 k k 0 0 y1 y2 y3) (by
  unfold T45
  repeat' first | with_reducible exact cC | with_reducible refine cN cR fun _ => ?_ | with_reducible refine cN cQ fun _ => ?_ | with_reducible refine cT fun _ => ?_ | with_reducible refine cI fun _ => ?_ | with_reducible refine cM ?_ | with_reducible refine cL fun _ _ => ?_ | with_reducible refine cO fun _ _ => ?_ | with_reducible refine cN cC fun _ => ?_ | with_reducible exact cR | with_reducible exact cQ) h

noncomputable def T55l1 (O : Orc) (k m q0 q1 : Nat) (y1 : Nat) (y2 : List V) (y3 : Nat) (y4 : List V) (y5 : Int) (y6 : Int) (y7 : Nat) (y8 : List V) (y9 : Int) (y10 : Int) (y11 : Nat) (y12 : List V)
 (y13 : Nat) (y14 : List V) (y15 : Nat) (y16 : List V) : Option V := bif decide (y6 < y5) then must (inB y6 y3) (asSl y4[y6.toNat * 6]? fun x1 x2 => PI.asInt .i64 y4[y6.toNat * 6 + 1]? fun x3 =>
 PI.asInt .i64 y4[y6.toNat * 6 + 1 + 1]? fun x4 => PI.asInt .i64 y4[y6.toNat * 6 + 1 + 1 + 1]? fun x5 => asSl y4[y6.toNat * 6 + 1 + 1 + 1 + 1]? fun x6 x7 => PI.asInt .i64 y4[y6.toNat * 6 + 1 + 1 + 1 +
 1 + 1]? fun x8 => need (O.R 0 107 [V.sl y7 y8, V.int .i64 y6]) fun x9 => asTup (some x9) fun x10 => asOsl x10[0]? fun x11 x12 => O.L 0 55 2 [true, true, false, true, false, true, true, false, false,
 true, true, false, true] [m] k [(1, V.ptr 0 0), (2, V.ptr 1 0), (3, V.ref 3), (4, V.sl y1 y2), (5, V.ref 4), (6, V.int .i64 y6), (7, V.ptr 5 0), (8, V.int .i64 0), (17, V.sl y3 y4), (18, V.int .i64
 y5), (19, V.int .i64 y6), (27, V.ref 6), (28, V.int .i64 (↑x11 : Int)), (29, V.int .i64 0)] [Ob.box 26 [V.sl y7 y8, V.int .i64 y9] false, Ob.box 26 [V.ref 2, V.int .i64 y10] false, Ob.nrow [] 28 y11
 y12, Ob.row 2 y13 y14 false, Ob.row 28 y15 y16 false, Ob.box 28 [V.sl x1 x2, V.int .i64 x3, V.int .i64 x4, V.int .i64 x5, V.sl x6 x7, V.int .i64 x8] false, Ob.row 2 x11 x12 false]) else need (O.R 0 40
 [V.sl y15 y16, V.int .i64 y9]) fun x13 => asTup (some x13) fun x14 => asOsl x14[0]? fun x15 x16 => PI.asInt .i64 x14[1]? fun x17 => some (V.tup [V.osl x15 x16, V.int .i64 x17])
theorem e55l1 (k m q0 q1 : Nat) (y1 : Nat) (y2 : List V) (y3 : Nat) (y4 : List V) (y5 : Int) (y6 : Int) (y7 : Nat) (y8 : List V) (y9 : Int) (y10 : Int) (y11 : Nat) (y12 : List V) (y13 : Nat) (y14 :
 List V) (y15 : Nat) (y16 : List V) : runL C k 55 0 [true, true, false, true] [] (m + 1) [(1, V.ptr 0 0), (2, V.ptr 1 0), (3, V.ref 3), (4, V.sl y1 y2), (5, V.ref 4), (17, V.sl y3 y4), (18, V.int .i64
 y5), (19, V.int .i64 y6)] [Ob.box 26 [V.sl y7 y8, V.int .i64 y9] false, Ob.box 26 [V.ref 2, V.int .i64 y10] false, Ob.nrow [] 28 y11 y12, Ob.row 2 y13 y14 false, Ob.row 28 y15 y16 false] = T55l1 (orc
 C k) k m q0 q1 y1 y2 y3 y4 y5 y6 y7 y8 y9 y10 y11 y12 y13 y14 y15 y16 := by kernel_rfl
theorem E55l1 (y1 : Nat) (y2 : List V) (y3 : Nat) (y4 : List V) (y5 : Int) (y6 : Int) (y7 : Nat) (y8 : List V) (y9 : Int) (y10 : Int) (y11 : Nat) (y12 : List V) (y13 : Nat) (y14 : List V) (y15 : Nat)
 (y16 : List V) {r : V} (h : T55l1 (orcE C) 0 0 0 0 y1 y2 y3 y4 y5 y6 y7 y8 y9 y10 y11 y12 y13 y14 y15 y16 = some r) : loopE C 55 0 [true, true, false, true] [] [(1, V.ptr 0 0), (2, V.ptr 1 0), (3,
 V.ref 3), (4, V.sl y1 y2), (5, V.ref 4), (17, V.sl y3 y4), (18, V.int .i64 y5), (19, V.int .i64 y6)] [Ob.box 26 [V.sl y7 y8, V.int .i64 y9] false, Ob.box 26 [V.ref 2, V.int .i64 y10] false, Ob.nrow []
 28 y11 y12, Ob.row 2 y13 y14 false, Ob.row 28 y15 y16 false] = some r := ofL (j := 0) (F := fun s => T55l1 (orc C s.k) s.k s.m 0 0 y1 y2 y3 y4 y5 y6 y7 y8 y9 y10 y11 y12 y13 y14 y15 y16) (fs0 fun k m
 => e55l1 k m 0 0 y1 y2 y3 y4 y5 y6 y7 y8 y9 y10 y11 y12 y13 y14 y15 y16) (by
  unfold T55l1
  repeat' first | with_reducible exact cC | with_reducible refine cN cR fun _ => ?_ | with_reducible refine cT fun _ => ?_ | with_reducible refine cI fun _ => ?_ | with_reducible refine cM ?_ | with_reducible refine cF ?_ ?_ | with_reducible refine cL fun _ _ => ?_ | with_reducible refine cO fun _ _ => ?_ | with_reducible refine cN cC fun _ => ?_ | with_reducible exact cR | exact cD1 gK gM) h

noncomputable def T64l1 (O : Orc) (k m q0 q1 : Nat) (y1 : Nat) (y2 : List V) (y3 : Nat) (y4 : List V) (y5 : Int) : Option V := bif decide (y5 < (↑y1 : Int)) then must (inB y5 y1) (asSl y2[y5.toNat *
 6]? fun x1 x2 => PI.asInt .i64 y2[y5.toNat * 6 + 1]? fun x3 => PI.asInt .i64 y2[y5.toNat * 6 + 1 + 1]? fun x4 => PI.asInt .i64 y2[y5.toNat * 6 + 1 + 1 + 1]? fun x5 => asSl y2[y5.toNat * 6 + 1 + 1 + 1
 + 1]? fun x6 x7 => PI.asInt .i64 y2[y5.toNat * 6 + 1 + 1 + 1 + 1 + 1]? fun x8 => must (inB y5 y3) (asSl y4[y5.toNat * 6]? fun x9 x10 => PI.asInt .i64 y4[y5.toNat * 6 + 1]? fun x11 => PI.asInt .i64
 y4[y5.toNat * 6 + 1 + 1]? fun x12 => PI.asInt .i64 y4[y5.toNat * 6 + 1 + 1 + 1]? fun x13 => asSl y4[y5.toNat * 6 + 1 + 1 + 1 + 1]? fun x14 x15 => PI.asInt .i64 y4[y5.toNat * 6 + 1 + 1 + 1 + 1 + 1]?
 fun x16 => need (O.R 0 126 [V.agg [V.sl x1 x2, V.int .i64 x3, V.int .i64 x4, V.int .i64 x5, V.sl x6 x7, V.int .i64 x8], V.agg [V.sl x9 x10, V.int .i64 x11, V.int .i64 x12, V.int .i64 x13, V.sl x14
 x15, V.int .i64 x16]]) fun x17 => asTup (some x17) fun x18 => PI.asBool x18[0]? fun x19 => bif !x19 then some (V.tup [V.bool false]) else O.L 0 64 0 [true, true, false, true] [] m [(0, V.sl y1 y2),
 (1, V.sl y3 y4), (5, V.int .i64 (IntKind.i64.wrap (y5 + 1)))] [])) else some (V.tup [V.bool true])
theorem e64l1 (k m q0 q1 : Nat) (y1 : Nat) (y2 : List V) (y3 : Nat) (y4 : List V) (y5 : Int) : runL C k 64 0 [true, true, false, true] [] (m + 1) [(0, V.sl y1 y2), (1, V.sl y3 y4), (5, V.int .i64 y5)]
 [] = T64l1 (orc C k) k m q0 q1 y1 y2 y3 y4 y5 := by kernel_rfl
theorem E64l1 (y1 : Nat) (y2 : List V) (y3 : Nat) (y4 : List V) (y5 : Int) {r : V} (h : T64l1 (orcE C) 0 0 0 0 y1 y2 y3 y4 y5 = some r) : loopE C 64 0 [true, true, false, true] [] [(0, V.sl y1 y2), (1,
 V.sl y3 y4), (5, V.int .i64 y5)] [] = some r := ofL (j := 0) (F := fun s => T64l1 (orc C s.k) s.k s.m 0 0 y1 y2 y3 y4 y5) (fs0 fun k m => e64l1 k m 0 0 y1 y2 y3 y4 y5) (by
  unfold T64l1
  repeat' first | with_reducible exact cC | with_reducible refine cN cR fun _ => ?_ | with_reducible refine cT fun _ => ?_ | with_reducible refine cI fun _ => ?_ | with_reducible refine cM ?_ | with_reducible refine cF ?_ ?_ | with_reducible refine cB fun _ => ?_ | with_reducible refine cL fun _ _ => ?_ | with_reducible refine cN cC fun _ => ?_ | with_reducible exact cR | exact cD0 gM) h

noncomputable def T65l1 (O : Orc) (k m q0 q1 : Nat) (y1 : Int) (y2 : Int) (y3 : Nat) (y4 : List V) : Option V := bif decide (y2 < (↑y3 : Int)) then must (inB y2 y3) (asOwn false 5 1 y4[y2.toNat * 6 +
 0]? fun x1 x2 => need (O.W 0 127 [0] [V.ref 0, V.int .i64 y1] [Ob.row 5 x1 x2 false]) fun x3 => asTup (some x3) fun x4 => PI.asInt .i64 x4[0]? fun x5 => asOsl x4[1]? fun x6 x7 => must (x7.all flatV)
 (must (inB y2 y3) (must ([V.int .i64 x5].length.beq 1 && (y2.toNat * 6 + 1 + [V.int .i64 x5].length).ble (y4.set (y2.toNat * 6 + 0) (V.own false 5 1 x6 x7)).length) (must (inB y2 y3) (must ([V.int
 .i64 (IntKind.i64.wrap (x5 + 1))].length.beq 1 && (y2.toNat * 6 + 2 + [V.int .i64 (IntKind.i64.wrap (x5 + 1))].length).ble (splice (y4.set (y2.toNat * 6 + 0) (V.own false 5 1 x6 x7)) (y2.toNat * 6 +
 1) [V.int .i64 x5]).length) (must (inB y2 y3) (must ([V.int .i64 (IntKind.i64.wrap (IntKind.i64.wrap (x5 + 1) + 1))].length.beq 1 && (y2.toNat * 6 + 3 + [V.int .i64 (IntKind.i64.wrap (IntKind.i64.wrap
 (x5 + 1) + 1))].length).ble (splice (splice (y4.set (y2.toNat * 6 + 0) (V.own false 5 1 x6 x7)) (y2.toNat * 6 + 1) [V.int .i64 x5]) (y2.toNat * 6 + 2) [V.int .i64 (IntKind.i64.wrap (x5 + 1))]).length)
 (must (inB y2 y3) (asOwn false 5 1 (splice (splice (splice (y4.set (y2.toNat * 6 + 0) (V.own false 5 1 x6 x7)) (y2.toNat * 6 + 1) [V.int .i64 x5]) (y2.toNat * 6 + 2) [V.int .i64 (IntKind.i64.wrap (x5
 + 1))]) (y2.toNat * 6 + 3) [V.int .i64 (IntKind.i64.wrap (IntKind.i64.wrap (x5 + 1) + 1))])[y2.toNat * 6 + 4]? fun x8 x9 => need (O.W 0 127 [0] [V.ref 0, V.int .i64 (IntKind.i64.wrap (IntKind.i64.wrap
 (IntKind.i64.wrap (x5 + 1) + 1) + 1))] [Ob.row 5 x8 x9 false]) fun x10 => asTup (some x10) fun x11 => PI.asInt .i64 x11[0]? fun x12 => asOsl x11[1]? fun x13 x14 => must (x14.all flatV) (must (inB y2
 y3) (must ([V.int .i64 x12].length.beq 1 && (y2.toNat * 6 + 5 + [V.int .i64 x12].length).ble ((splice (splice (splice (y4.set (y2.toNat * 6 + 0) (V.own false 5 1 x6 x7)) (y2.toNat * 6 + 1) [V.int .i64
 x5]) (y2.toNat * 6 + 2) [V.int .i64 (IntKind.i64.wrap (x5 + 1))]) (y2.toNat * 6 + 3) [V.int .i64 (IntKind.i64.wrap (IntKind.i64.wrap (x5 + 1) + 1))]).set (y2.toNat * 6 + 4) (V.own false 5 1 x13
 x14)).length) (O.X 0 65 [0] [Ob.nrow [] 28 0 []] 0 [true, false, true] [] m [(0, V.ref 0), (1, V.int .i64 (IntKind.i64.wrap (x12 + 1))), (5, V.int .i64 (IntKind.i64.wrap (y2 + 1)))] [Ob.nrow [] 28 y3
 (splice ((splice (splice (splice (y4.set (y2.toNat * 6 + 0) (V.own false 5 1 x6 x7)) (y2.toNat * 6 + 1) [V.int .i64 x5]) (y2.toNat * 6 + 2) [V.int .i64 (IntKind.i64.wrap (x5 + 1))]) (y2.toNat * 6 + 3)
 [V.int .i64 (IntKind.i64.wrap (IntKind.i64.wrap (x5 + 1) + 1))]).set (y2.toNat * 6 + 4) (V.own false 5 1 x13 x14)) (y2.toNat * 6 + 5) [V.int .i64 x12])])))))))))))) else some (V.tup [V.int .i64 y1,
 V.osl y3 y4])
theorem e65l1 (k m q0 q1 : Nat) (y1 : Int) (y2 : Int) (y3 : Nat) (y4 : List V) : runLW C k 65 [0] [Ob.nrow [] 28 0 []] 0 [true, false, true] [] (m + 1) [(0, V.ref 0), (1, V.int .i64 y1), (5, V.int .i64
 y2)] [Ob.nrow [] 28 y3 y4] = T65l1 (orc C k) k m q0 q1 y1 y2 y3 y4 := by kernel_rfl
theorem E65l1 (y1 : Int) (y2 : Int) (y3 : Nat) (y4 : List V) {r : V} (h : T65l1 (orcE C) 0 0 0 0 y1 y2 y3 y4 = some r) : loopWE C 65 [0] [Ob.nrow [] 28 0 []] 0 [true, false, true] [] [(0, V.ref 0), (1,
 V.int .i64 y1), (5, V.int .i64 y2)] [Ob.nrow [] 28 y3 y4] = some r := ofX (j := 0) (F := fun s => T65l1 (orc C s.k) s.k s.m 0 0 y1 y2 y3 y4) (fs0 fun k m => e65l1 k m 0 0 y1 y2 y3 y4) (by
  unfold T65l1
  repeat' first | with_reducible exact cC | with_reducible refine cN cQ fun _ => ?_ | with_reducible refine cT fun _ => ?_ | with_reducible refine cI fun _ => ?_ | with_reducible refine cM ?_ | with_reducible refine cF ?_ ?_ | with_reducible refine cO fun _ _ => ?_ | with_reducible refine cP fun _ _ => ?_ | with_reducible refine cN cC fun _ => ?_ | with_reducible exact cQ | exact cX0 gM) h

noncomputable def T128 (O : Orc) (k m q0 q1 : Nat) (y1 : Nat) (y2 : List V) (y3 : Int) : Option V := O.L 0 128 0 [true, false, true] [] k [(0, V.sl y1 y2), (1, V.int .i64 y3), (5, V.int .i64 0)] []
theorem e128 (k m q0 q1 : Nat) (y1 : Nat) (y2 : List V) (y3 : Int) : runV C (k + 1) 128 [V.sl y1 y2, V.int .i64 y3] = T128 (orc C k) k m q0 q1 y1 y2 y3 := by kernel_rfl
theorem E128 (y1 : Nat) (y2 : List V) (y3 : Int) {r : V} (h : T128 (orcE C) 0 0 0 0 y1 y2 y3 = some r) : runE C 128 [V.sl y1 y2, V.int .i64 y3] = some r := ofR (F := fun s => T128 (orc C s.k) s.k s.m 0
 0 y1 y2 y3) (fun k => e128 k k 0 0 y1 y2 y3) (by
  unfold T128
  repeat' first | with_reducible exact cC | exact cD0 gK) h

noncomputable def T124 (O : Orc) (k m q0 q1 : Nat) (y1 : Nat) (y2 : List V) (y3 : Int) (y4 : Int) (y5 : Int) (y6 : Nat) (y7 : List V) (y8 : Int) (y9 : Int) : Option V := need (O.R 0 182 [V.sl y1 y2,
 V.int .i64 y9]) fun x1 => asTup (some x1) fun x2 => PI.asInt .i64 x2[0]? fun x3 => bif decide (x3 < 0) then some (V.tup [V.int .i64 (-1)]) else need (O.R 0 182 [V.sl y6 y7, V.int .i64 x3]) fun x4 =>
 asTup (some x4) fun x5 => PI.asInt .i64 x5[0]? fun x6 => bif decide (x6 < 0) then some (V.tup [V.int .i64 (-1)]) else some (V.tup [V.int .i64 x6])
theorem e124 (k m q0 q1 : Nat) (y1 : Nat) (y2 : List V) (y3 : Int) (y4 : Int) (y5 : Int) (y6 : Nat) (y7 : List V) (y8 : Int) (y9 : Int) : runV C (k + 1) 124 [V.agg [V.sl y1 y2, V.int .i64 y3, V.int
 .i64 y4, V.int .i64 y5, V.sl y6 y7, V.int .i64 y8], V.int .i64 y9] = T124 (orc C k) k m q0 q1 y1 y2 y3 y4 y5 y6 y7 y8 y9 := by kernel_rfl
theorem E124 (y1 : Nat) (y2 : List V) (y3 : Int) (y4 : Int) (y5 : Int) (y6 : Nat) (y7 : List V) (y8 : Int) (y9 : Int) {r : V} (h : T124 (orcE C) 0 0 0 0 y1 y2 y3 y4 y5 y6 y7 y8 y9 = some r) : runE C
 124 [V.agg [V.sl y1 y2, V.int .i64 y3, V.int .i64 y4, V.int .i64 y5, V.sl y6 y7, V.int .i64 y8], V.int .i64 y9] = some r := ofR (F := fun s => T124 (orc C s.k) s.k s.m 0 0 y1 y2 y3 y4 y5 y6 y7 y8 y9)
 (fun k => e124 k k 0 0 y1 y2 y3 y4 y5 y6 y7 y8 y9) (by
  unfold T124
  repeat' first | with_reducible exact cC | with_reducible refine cN cR fun _ => ?_ | with_reducible refine cT fun _ => ?_ | with_reducible refine cI fun _ => ?_ | with_reducible refine cF ?_ ?_ | with_reducible refine cN cC fun _ => ?_ | with_reducible exact cR) h

noncomputable def T125 (O : Orc) (k m q0 q1 : Nat) (y1 : Nat) (y2 : List V) (y3 : Int) (y4 : Int) (y5 : Int) (y6 : Nat) (y7 : List V) (y8 : Int) : Option V := need (O.R 0 183 [V.sl y1 y2]) fun x1 =>
 asTup (some x1) fun x2 => asOsl x2[0]? fun x3 x4 => need (O.R 0 183 [V.sl y6 y7]) fun x5 => asTup (some x5) fun x6 => asOsl x6[0]? fun x7 x8 => must (false || x4.all flatV) (must (false || x8.all
 flatV) (some (V.tup [V.osl x3 x4, V.int .i64 y3, V.int .i64 y4, V.int .i64 y5, V.osl x7 x8, V.int .i64 y8])))
theorem e125 (k m q0 q1 : Nat) (y1 : Nat) (y2 : List V) (y3 : Int) (y4 : Int) (y5 : Int) (y6 : Nat) (y7 : List V) (y8 : Int) : runV C (k + 1) 125 [V.agg [V.sl y1 y2, V.int .i64 y3, V.int .i64 y4, V.int
 .i64 y5, V.sl y6 y7, V.int .i64 y8]] = T125 (orc C k) k m q0 q1 y1 y2 y3 y4 y5 y6 y7 y8 := by kernel_rfl
theorem E125 (y1 : Nat) (y2 : List V) (y3 : Int) (y4 : Int) (y5 : Int) (y6 : Nat) (y7 : List V) (y8 : Int) {r : V} (h : T125 (orcE C) 0 0 0 0 y1 y2 y3 y4 y5 y6 y7 y8 = some r) : runE C 125 [V.agg [V.sl
 y1 y2, V.int .i64 y3, V.int .i64 y4, V.int .i64 y5, V.sl y6 y7, V.int .i64 y8]] = some r := ofR (F := fun s => T125 (orc C s.k) s.k s.m 0 0 y1 y2 y3 y4 y5 y6 y7 y8) (fun k => e125 k k 0 0 y1 y2 y3 y4
 y5 y6 y7 y8) (by
  unfold T125
  repeat' first | with_reducible exact cC | with_reducible refine cN cR fun _ => ?_ | with_reducible refine cT fun _ => ?_ | with_reducible refine cM ?_ | with_reducible refine cO fun _ _ => ?_ | with_reducible refine cN cC fun _ => ?_ | with_reducible exact cR) h

noncomputable def T100 (O : Orc) (k m q0 q1 : Nat) (y1 : Nat) (y2 : List V) (y3 : Int) (y4 : Int) (y5 : Int) (y6 : Nat) (y7 : List V) (y8 : Int) : Option V := need (O.R 0 166 [V.agg [V.sl y1 y2, V.int
 .i64 y3, V.int .i64 y4, V.int .i64 y5, V.sl y6 y7, V.int .i64 y8]]) fun x1 => asTup (some x1) fun x2 => PI.asInt .i64 x2[0]? fun x3 => bif x3 != 0 then some (V.tup [V.int .i64 x3]) else need (O.R 0
 167 [V.agg [V.sl y1 y2, V.int .i64 y3, V.int .i64 y4, V.int .i64 y5, V.sl y6 y7, V.int .i64 y8]]) fun x4 => asTup (some x4) fun x5 => PI.asBool x5[0]? fun x6 => bif !x6 then some (V.tup [V.int .i64
 6]) else some (V.tup [V.int .i64 0])
theorem e100 (k m q0 q1 : Nat) (y1 : Nat) (y2 : List V) (y3 : Int) (y4 : Int) (y5 : Int) (y6 : Nat) (y7 : List V) (y8 : Int) : runV C (k + 1) 100 [V.agg [V.sl y1 y2, V.int .i64 y3, V.int .i64 y4, V.int
 .i64 y5, V.sl y6 y7, V.int .i64 y8]] = T100 (orc C k) k m q0 q1 y1 y2 y3 y4 y5 y6 y7 y8 := by kernel_rfl
theorem E100 (y1 : Nat) (y2 : List V) (y3 : Int) (y4 : Int) (y5 : Int) (y6 : Nat) (y7 : List V) (y8 : Int) {r : V} (h : T100 (orcE C) 0 0 0 0 y1 y2 y3 y4 y5 y6 y7 y8 = some r) : runE C 100 [V.agg [V.sl
 y1 y2, V.int .i64 y3, V.int .i64 y4, V.int .i64 y5, V.sl y6 y7, V.int .i64 y8]] = some r := ofR (F := fun s => T100 (orc C s.k) s.k s.m 0 0 y1 y2 y3 y4 y5 y6 y7 y8) (fun k => e100 k k 0 0 y1 y2 y3 y4
 y5 y6 y7 y8) (by
  unfold T100
  repeat' first | with_reducible exact cC | with_reducible refine cN cR fun _ => ?_ | with_reducible refine cT fun _ => ?_ | with_reducible refine cI fun _ => ?_ | with_reducible refine cF ?_ ?_ | with_reducible refine cB fun _ => ?_ | with_reducible refine cN cC fun _ => ?_ | with_reducible exact cR) h

noncomputable def T101 (O : Orc) (k m q0 q1 : Nat) (y1 : Nat) (y2 : List V) (y3 : Int) (y4 : Int) (y5 : Int) (y6 : Nat) (y7 : List V) (y8 : Int) : Option V := bif y3 == 0 then bif y5 == 0 then need
 (O.R 0 85 [V.sl y1 y2, V.sl 32 [V.int .u8 0, V.int .u8 0, V.int .u8 0, V.int .u8 0, V.int .u8 0, V.int .u8 0, V.int .u8 0, V.int .u8 0, V.int .u8 0, V.int .u8 0, V.int .u8 0, V.int .u8 0, V.int .u8 0,
 V.int .u8 0, V.int .u8 0, V.int .u8 0, V.int .u8 0, V.int .u8 0, V.int .u8 0, V.int .u8 0, V.int .u8 0, V.int .u8 0, V.int .u8 0, V.int .u8 0, V.int .u8 0, V.int .u8 0, V.int .u8 0, V.int .u8 0, V.int
 .u8 0, V.int .u8 0, V.int .u8 0, V.int .u8 0]]) fun x1 => asTup (some x1) fun x2 => PI.asBool x2[0]? fun x3 => some (V.tup [V.bool x3]) else some (V.tup [V.bool false]) else some (V.tup [V.bool
 false])
theorem e101 (k m q0 q1 : Nat) (y1 : Nat) (y2 : List V) (y3 : Int) (y4 : Int) (y5 : Int) (y6 : Nat) (y7 : List V) (y8 : Int) : runV C (k + 1) 101 [V.agg [V.sl y1 y2, V.int .i64 y3, V.int .i64 y4, V.int
 .i64 y5, V.sl y6 y7, V.int .i64 y8]] = T101 (orc C k) k m q0 q1 y1 y2 y3 y4 y5 y6 y7 y8 := by kernel_rfl
theorem E101 (y1 : Nat) (y2 : List V) (y3 : Int) (y4 : Int) (y5 : Int) (y6 : Nat) (y7 : List V) (y8 : Int) {r : V} (h : T101 (orcE C) 0 0 0 0 y1 y2 y3 y4 y5 y6 y7 y8 = some r) : runE C 101 [V.agg [V.sl
 y1 y2, V.int .i64 y3, V.int .i64 y4, V.int .i64 y5, V.sl y6 y7, V.int .i64 y8]] = some r := ofR (F := fun s => T101 (orc C s.k) s.k s.m 0 0 y1 y2 y3 y4 y5 y6 y7 y8) (fun k => e101 k k 0 0 y1 y2 y3 y4
 y5 y6 y7 y8) (by
  unfold T101
  repeat' first | with_reducible exact cC | with_reducible refine cN cR fun _ => ?_ | with_reducible refine cT fun _ => ?_ | with_reducible refine cF ?_ ?_ | with_reducible refine cB fun _ => ?_ | with_reducible refine cN cC fun _ => ?_ | with_reducible exact cR) h

noncomputable def T102 (O : Orc) (k m q0 q1 : Nat) (y1 : Nat) (y2 : List V) (y3 : Nat) (y4 : List V) (y5 : Nat) (y6 : List V) (y7 : Int) (y8 : Int) (y9 : Int) (y10 : Nat) (y11 : List V) (y12 : Int) :
 Option V := need (O.R 0 168 [V.agg [V.sl y5 y6, V.int .i64 y7, V.int .i64 y8, V.int .i64 y9, V.sl y10 y11, V.int .i64 y12]]) fun x1 => asTup (some x1) fun x2 => asOsl x2[0]? fun x3 x4 => need (O.R 0
 123 [V.sl y3 y4, V.sl x3 x4]) fun x5 => asTup (some x5) fun x6 => PI.asInt .i64 x6[0]? fun x7 => bif decide (x7 ≥ 0) then some (V.tup [V.int .i64 7]) else need (O.R 0 123 [V.sl y3 y4, V.sl y5 y6]) fun
 x8 => asTup (some x8) fun x9 => PI.asInt .i64 x9[0]? fun x10 => bif decide (x10 < 0) then some (V.tup [V.int .i64 4]) else must (inB x10 y1) (PI.asInt .i64 y2[x10.toNat * 6 + 1]? fun x11 => bif y7 !=
 IntKind.i64.wrap (x11 + 1) then some (V.tup [V.int .i64 1]) else must (inB x10 y1) (PI.asInt .i64 y2[x10.toNat * 6 + 2]? fun x12 => bif decide (y8 ≤ x12) then some (V.tup [V.int .i64 1]) else need
 (O.R 0 170 [V.sl y1 y2, V.sl y3 y4, V.int .i64 x10]) fun x13 => asTup (some x13) fun x14 => asSl x14[0]? fun x15 x16 => need (O.R 0 169 [V.sl x15 x16]) fun x17 => asTup (some x17) fun x18 => PI.asInt
 .i64 x18[0]? fun x19 => bif y9 != x19 then some (V.tup [V.int .i64 1]) else some (V.tup [V.int .i64 0])))
theorem e102 (k m q0 q1 : Nat) (y1 : Nat) (y2 : List V) (y3 : Nat) (y4 : List V) (y5 : Nat) (y6 : List V) (y7 : Int) (y8 : Int) (y9 : Int) (y10 : Nat) (y11 : List V) (y12 : Int) : runV C (k + 1) 102
 [V.sl y1 y2, V.sl y3 y4, V.agg [V.sl y5 y6, V.int .i64 y7, V.int .i64 y8, V.int .i64 y9, V.sl y10 y11, V.int .i64 y12]] = T102 (orc C k) k m q0 q1 y1 y2 y3 y4 y5 y6 y7 y8 y9 y10 y11 y12 := by
 kernel_rfl
theorem E102 (y1 : Nat) (y2 : List V) (y3 : Nat) (y4 : List V) (y5 : Nat) (y6 : List V) (y7 : Int) (y8 : Int) (y9 : Int) (y10 : Nat) (y11 : List V) (y12 : Int) {r : V} (h : T102 (orcE C) 0 0 0 0 y1 y2
 y3 y4 y5 y6 y7 y8 y9 y10 y11 y12 = some r) : runE C 102 [V.sl y1 y2, V.sl y3 y4, V.agg [V.sl y5 y6, V.int .i64 y7, V.int .i64 y8, V.int .i64 y9, V.sl y10 y11, V.int .i64 y12]] = some r := ofR (F :=
 fun s => T102 (orc C s.k) s.k s.m 0 0 y1 y2 y3 y4 y5 y6 y7 y8 y9 y10 y11 y12) (fun k => e102 k k 0 0 y1 y2 y3 y4 y5 y6 y7 y8 y9 y10 y11 y12) (by
  unfold T102
  repeat' first | with_reducible exact cC | with_reducible refine cN cR fun _ => ?_ | with_reducible refine cT fun _ => ?_ | with_reducible refine cI fun _ => ?_ | with_reducible refine cM ?_ | with_reducible refine cF ?_ ?_ | with_reducible refine cL fun _ _ => ?_ | with_reducible refine cO fun _ _ => ?_ | with_reducible refine cN cC fun _ => ?_ | with_reducible exact cR) h

noncomputable def T42l2 (O : Orc) (k m q0 q1 : Nat) (y1 : Int) (y2 : Nat) (y3 : List V) (y4 : Int) (y5 : Nat) (y6 : List V) : Option V := bif decide (y1 < (↑y2 : Int)) then must (inB y1 y2) (asSl
 y3[y1.toNat * 6]? fun x1 x2 => PI.asInt .i64 y3[y1.toNat * 6 + 1]? fun x3 => PI.asInt .i64 y3[y1.toNat * 6 + 1 + 1]? fun x4 => PI.asInt .i64 y3[y1.toNat * 6 + 1 + 1 + 1]? fun x5 => asSl y3[y1.toNat *
 6 + 1 + 1 + 1 + 1]? fun x6 x7 => PI.asInt .i64 y3[y1.toNat * 6 + 1 + 1 + 1 + 1 + 1]? fun x8 => need (O.R 0 100 [V.agg [V.sl x1 x2, V.int .i64 x3, V.int .i64 x4, V.int .i64 x5, V.sl x6 x7, V.int .i64
 x8]]) fun x9 => asTup (some x9) fun x10 => PI.asInt .i64 x10[0]? fun x11 => bif x11 != 0 then some (V.tup [V.int .i64 x11]) else bif y1 == 0 then must (inB 0 y2) (asSl y3[0]? fun x12 x13 => PI.asInt
 .i64 y3[1]? fun x14 => PI.asInt .i64 y3[2]? fun x15 => PI.asInt .i64 y3[3]? fun x16 => asSl y3[4]? fun x17 x18 => PI.asInt .i64 y3[5]? fun x19 => need (O.R 0 101 [V.agg [V.sl x12 x13, V.int .i64 x14,
 V.int .i64 x15, V.int .i64 x16, V.sl x17 x18, V.int .i64 x19]]) fun x20 => asTup (some x20) fun x21 => PI.asBool x21[0]? fun x22 => bif !x22 then some (V.tup [V.int .i64 1]) else O.L 0 42 0 [true,
 true, true, true, true, false, true] [] m [(1, V.ptr 0 0), (3, V.ref 1), (4, V.int .i64 (IntKind.i64.wrap (y1 + 1)))] [Ob.box 26 [V.sl y2 y3, V.int .i64 y4] false, Ob.row 22 y5 y6 true]) else must
 (decide (0 ≤ y1) && decide (y1 ≤ (↑y2 : Int))) (must (decide (0 ≤ y1) && decide (y1 ≤ (↑y5 : Int))) (must (inB y1 y2) (asSl y3[y1.toNat * 6]? fun x23 x24 => PI.asInt .i64 y3[y1.toNat * 6 + 1]? fun x25
 => PI.asInt .i64 y3[y1.toNat * 6 + 1 + 1]? fun x26 => PI.asInt .i64 y3[y1.toNat * 6 + 1 + 1 + 1]? fun x27 => asSl y3[y1.toNat * 6 + 1 + 1 + 1 + 1]? fun x28 x29 => PI.asInt .i64 y3[y1.toNat * 6 + 1 + 1
 + 1 + 1 + 1]? fun x30 => need (O.R 0 102 [V.sl (y1.toNat - 0) (List.take ((y1.toNat - 0) * 6) (List.drop 0 y3)), V.sl (y1.toNat - 0) (List.take ((y1.toNat - 0) * 1) (List.drop 0 y6)), V.agg [V.sl x23
 x24, V.int .i64 x25, V.int .i64 x26, V.int .i64 x27, V.sl x28 x29, V.int .i64 x30]]) fun x31 => asTup (some x31) fun x32 => PI.asInt .i64 x32[0]? fun x33 => bif x33 != 0 then some (V.tup [V.int .i64
 x33]) else O.L 0 42 0 [true, true, true, true, true, false, true] [] m [(1, V.ptr 0 0), (3, V.ref 1), (4, V.int .i64 (IntKind.i64.wrap (y1 + 1)))] [Ob.box 26 [V.sl y2 y3, V.int .i64 y4] false, Ob.row
 22 y5 y6 true])))) else some (V.tup [V.int .i64 0])
theorem e42l2 (k m q0 q1 : Nat) (y1 : Int) (y2 : Nat) (y3 : List V) (y4 : Int) (y5 : Nat) (y6 : List V) : runL C k 42 0 [true, true, true, true, true, false, true] [] (m + 1) [(1, V.ptr 0 0), (3, V.ref
 1), (4, V.int .i64 y1)] [Ob.box 26 [V.sl y2 y3, V.int .i64 y4] false, Ob.row 22 y5 y6 true] = T42l2 (orc C k) k m q0 q1 y1 y2 y3 y4 y5 y6 := by kernel_rfl
theorem E42l2 (y1 : Int) (y2 : Nat) (y3 : List V) (y4 : Int) (y5 : Nat) (y6 : List V) {r : V} (h : T42l2 (orcE C) 0 0 0 0 y1 y2 y3 y4 y5 y6 = some r) : loopE C 42 0 [true, true, true, true, true,
 false, true] [] [(1, V.ptr 0 0), (3, V.ref 1), (4, V.int .i64 y1)] [Ob.box 26 [V.sl y2 y3, V.int .i64 y4] false, Ob.row 22 y5 y6 true] = some r := ofL (j := 0) (F := fun s => T42l2 (orc C s.k) s.k s.m
 0 0 y1 y2 y3 y4 y5 y6) (fs0 fun k m => e42l2 k m 0 0 y1 y2 y3 y4 y5 y6) (by
  unfold T42l2
  repeat' first | with_reducible exact cC | with_reducible refine cN cR fun _ => ?_ | with_reducible refine cT fun _ => ?_ | with_reducible refine cI fun _ => ?_ | with_reducible refine cM ?_ | with_reducible refine cF ?_ ?_ | with_reducible refine cB fun _ => ?_ | with_reducible refine cL fun _ _ => ?_ | with_reducible refine cN cC fun _ => ?_ | with_reducible exact cR | exact cD0 gM) h

noncomputable def T121l1 (O : Orc) (k m q0 q1 : Nat) (y1 : Nat) (y2 : List V) (y3 : Nat) (y4 : List V) (y5 : Int) (y6 : Int) (y7 : Int) : Option V := bif decide (y7 < (↑y1 : Int)) then need (O.R 0 170
 [V.sl y1 y2, V.sl y3 y4, V.int .i64 y7]) fun x1 => asTup (some x1) fun x2 => asSl x2[0]? fun x3 x4 => need (O.R 0 181 [V.sl x3 x4]) fun x5 => asTup (some x5) fun x6 => PI.asInt .i64 x6[0]? fun x7 =>
 bif decide (x7 > y6) then O.L 0 121 0 [true, true, true, false, true] [] m [(0, V.sl y1 y2), (1, V.sl y3 y4), (5, V.int .i64 y7), (6, V.int .i64 x7), (7, V.int .i64 (IntKind.i64.wrap (y7 + 1)))] []
 else O.L 0 121 0 [true, true, true, false, true] [] m [(0, V.sl y1 y2), (1, V.sl y3 y4), (5, V.int .i64 y5), (6, V.int .i64 y6), (7, V.int .i64 (IntKind.i64.wrap (y7 + 1)))] [] else some (V.tup [V.int
 .i64 y5])
theorem e121l1 (k m q0 q1 : Nat) (y1 : Nat) (y2 : List V) (y3 : Nat) (y4 : List V) (y5 : Int) (y6 : Int) (y7 : Int) : runL C k 121 0 [true, true, true, false, true] [] (m + 1) [(0, V.sl y1 y2), (1,
 V.sl y3 y4), (5, V.int .i64 y5), (6, V.int .i64 y6), (7, V.int .i64 y7)] [] = T121l1 (orc C k) k m q0 q1 y1 y2 y3 y4 y5 y6 y7 := by kernel_rfl
theorem E121l1 (y1 : Nat) (y2 : List V) (y3 : Nat) (y4 : List V) (y5 : Int) (y6 : Int) (y7 : Int) {r : V} (h : T121l1 (orcE C) 0 0 0 0 y1 y2 y3 y4 y5 y6 y7 = some r) : loopE C 121 0 [true, true, true,
 false, true] [] [(0, V.sl y1 y2), (1, V.sl y3 y4), (5, V.int .i64 y5), (6, V.int .i64 y6), (7, V.int .i64 y7)] [] = some r := ofL (j := 0) (F := fun s => T121l1 (orc C s.k) s.k s.m 0 0 y1 y2 y3 y4 y5
 y6 y7) (fs0 fun k m => e121l1 k m 0 0 y1 y2 y3 y4 y5 y6 y7) (by
  unfold T121l1
  repeat' first | with_reducible exact cC | with_reducible refine cN cR fun _ => ?_ | with_reducible refine cT fun _ => ?_ | with_reducible refine cI fun _ => ?_ | with_reducible refine cF ?_ ?_ | with_reducible refine cL fun _ _ => ?_ | with_reducible refine cN cC fun _ => ?_ | with_reducible exact cR | exact cD0 gM) h

noncomputable def T59l1 (O : Orc) (k m q0 q1 : Nat) (y1 : Nat) (y2 : List V) (y3 : Nat) (y4 : List V) (y5 : Int) (y6 : Nat) (y7 : List V) : Option V := bif decide (y5 > 0) then must (decide (0 ≤ y5) &&
 decide (y5 ≤ (↑y3 : Int))) (must (inB y5 y1) (must (decide (y5.toNat * 6 + 0 < y2.length)) (asSl y2[y5.toNat * 6 + 0]? fun x1 x2 => need (O.R 0 123 [V.sl (y5.toNat - 0) (List.take ((y5.toNat - 0) * 1)
 (List.drop 0 y4)), V.sl x1 x2]) fun x3 => asTup (some x3) fun x4 => PI.asInt .i64 x4[0]? fun x5 => bif decide (x5 < 0) then some (V.tup [V.sl y6 y7]) else must (decide (y7.length = y6 * 1)) (must
 (true && (1 + y6).ble 140737488355328 && ((1 + y6) * 8).ble 140737488355328) (O.L 0 59 0 [true, true, false] [] m [(0, V.sl y1 y2), (1, V.sl y3 y4), (2, V.int .i64 x5), (7, V.ref 0)] [Ob.row 2 (1 +
 y6) (V.int .i64 x5 :: y7) false]))))) else some (V.tup [V.sl y6 y7])
theorem e59l1 (k m q0 q1 : Nat) (y1 : Nat) (y2 : List V) (y3 : Nat) (y4 : List V) (y5 : Int) (y6 : Nat) (y7 : List V) : runL C k 59 0 [true, true, false] [] (m + 1) [(0, V.sl y1 y2), (1, V.sl y3 y4),
 (2, V.int .i64 y5), (7, V.ref 0)] [Ob.row 2 y6 y7 false] = T59l1 (orc C k) k m q0 q1 y1 y2 y3 y4 y5 y6 y7 := by kernel_rfl
theorem E59l1 (y1 : Nat) (y2 : List V) (y3 : Nat) (y4 : List V) (y5 : Int) (y6 : Nat) (y7 : List V) {r : V} (h : T59l1 (orcE C) 0 0 0 0 y1 y2 y3 y4 y5 y6 y7 = some r) : loopE C 59 0 [true, true, false]
 [] [(0, V.sl y1 y2), (1, V.sl y3 y4), (2, V.int .i64 y5), (7, V.ref 0)] [Ob.row 2 y6 y7 false] = some r := ofL (j := 0) (F := fun s => T59l1 (orc C s.k) s.k s.m 0 0 y1 y2 y3 y4 y5 y6 y7) (fs0 fun k m
 => e59l1 k m 0 0 y1 y2 y3 y4 y5 y6 y7) (by
  unfold T59l1
  repeat' first | with_reducible exact cC | with_reducible refine cN cR fun _ => ?_ | with_reducible refine cT fun _ => ?_ | with_reducible refine cI fun _ => ?_ | with_reducible refine cM ?_ | with_reducible refine cF ?_ ?_ | with_reducible refine cL fun _ _ => ?_ | with_reducible refine cN cC fun _ => ?_ | with_reducible exact cR | exact cD0 gM) h

noncomputable def T122 (O : Orc) (k m q0 q1 : Nat) (y1 : Nat) (y2 : List V) (y3 : Int) (y4 : Int) (y5 : Int) (y6 : Nat) (y7 : List V) (y8 : Int) : Option V := need (O.R 0 166 [V.agg [V.sl y1 y2, V.int
 .i64 y3, V.int .i64 y4, V.int .i64 y5, V.sl y6 y7, V.int .i64 y8]]) fun x1 => asTup (some x1) fun x2 => PI.asInt .i64 x2[0]? fun x3 => bif x3 != 0 then some (V.tup [V.osl 0 []]) else need (O.R 0 168
 [V.agg [V.sl y1 y2, V.int .i64 y3, V.int .i64 y4, V.int .i64 y5, V.sl y6 y7, V.int .i64 y8]]) fun x4 => asTup (some x4) fun x5 => asOsl x5[0]? fun x6 x7 => must (false || x7.all flatV) (some (V.tup
 [V.osl x6 x7]))
theorem e122 (k m q0 q1 : Nat) (y1 : Nat) (y2 : List V) (y3 : Int) (y4 : Int) (y5 : Int) (y6 : Nat) (y7 : List V) (y8 : Int) : runV C (k + 1) 122 [V.agg [V.sl y1 y2, V.int .i64 y3, V.int .i64 y4, V.int
 .i64 y5, V.sl y6 y7, V.int .i64 y8]] = T122 (orc C k) k m q0 q1 y1 y2 y3 y4 y5 y6 y7 y8 := by kernel_rfl
theorem E122 (y1 : Nat) (y2 : List V) (y3 : Int) (y4 : Int) (y5 : Int) (y6 : Nat) (y7 : List V) (y8 : Int) {r : V} (h : T122 (orcE C) 0 0 0 0 y1 y2 y3 y4 y5 y6 y7 y8 = some r) : runE C 122 [V.agg [V.sl
 y1 y2, V.int .i64 y3, V.int .i64 y4, V.int .i64 y5, V.sl y6 y7, V.int .i64 y8]] = some r := ofR (F := fun s => T122 (orc C s.k) s.k s.m 0 0 y1 y2 y3 y4 y5 y6 y7 y8) (fun k => e122 k k 0 0 y1 y2 y3 y4
 y5 y6 y7 y8) (by
  unfold T122
  repeat' first | with_reducible exact cC | with_reducible refine cN cR fun _ => ?_ | with_reducible refine cT fun _ => ?_ | with_reducible refine cI fun _ => ?_ | with_reducible refine cM ?_ | with_reducible refine cF ?_ ?_ | with_reducible refine cO fun _ _ => ?_ | with_reducible refine cN cC fun _ => ?_ | with_reducible exact cR) h

noncomputable def T60 (O : Orc) (k m q0 q1 : Nat) (y1 : Nat) (y2 : List V) (y3 : Int) : Option V := O.L 0 60 0 [true, false, true] [] k [(0, V.sl y1 y2), (1, V.int .i64 y3), (5, V.int .i64 0)] []
theorem e60 (k m q0 q1 : Nat) (y1 : Nat) (y2 : List V) (y3 : Int) : runV C (k + 1) 60 [V.sl y1 y2, V.int .i64 y3] = T60 (orc C k) k m q0 q1 y1 y2 y3 := by kernel_rfl
theorem E60 (y1 : Nat) (y2 : List V) (y3 : Int) {r : V} (h : T60 (orcE C) 0 0 0 0 y1 y2 y3 = some r) : runE C 60 [V.sl y1 y2, V.int .i64 y3] = some r := ofR (F := fun s => T60 (orc C s.k) s.k s.m 0 0
 y1 y2 y3) (fun k => e60 k k 0 0 y1 y2 y3) (by
  unfold T60
  repeat' first | with_reducible exact cC | exact cD0 gK) h

noncomputable def T61 (O : Orc) (k m q0 q1 : Nat) (y1 : Nat) (y2 : List V) (y3 : Int) (y4 : Int) (y5 : Int) (y6 : Nat) (y7 : List V) (y8 : Int) : Option V := must (decide (y2.length = y1 * 1)) (must
 (true && (0 + y1).ble 140737488355328 && ((0 + y1) * 1).ble 140737488355328) (must (decide (y7.length = y6 * 1)) (must (true && (0 + y6).ble 140737488355328 && ((0 + y6) * 1).ble 140737488355328)
 (must (false || y2.all flatV) (must (false || y7.all flatV) (some (V.tup [V.osl (0 + y1) y2, V.int .i64 y3, V.int .i64 y4, V.int .i64 y5, V.osl (0 + y6) y7, V.int .i64 y8])))))))
theorem e61 (k m q0 q1 : Nat) (y1 : Nat) (y2 : List V) (y3 : Int) (y4 : Int) (y5 : Int) (y6 : Nat) (y7 : List V) (y8 : Int) : runV C (k + 1) 61 [V.agg [V.sl y1 y2, V.int .i64 y3, V.int .i64 y4, V.int
 .i64 y5, V.sl y6 y7, V.int .i64 y8]] = T61 (orc C k) k m q0 q1 y1 y2 y3 y4 y5 y6 y7 y8 := by kernel_rfl
theorem E61 (y1 : Nat) (y2 : List V) (y3 : Int) (y4 : Int) (y5 : Int) (y6 : Nat) (y7 : List V) (y8 : Int) {r : V} (h : T61 (orcE C) 0 0 0 0 y1 y2 y3 y4 y5 y6 y7 y8 = some r) : runE C 61 [V.agg [V.sl y1
 y2, V.int .i64 y3, V.int .i64 y4, V.int .i64 y5, V.sl y6 y7, V.int .i64 y8]] = some r := ofR (F := fun s => T61 (orc C s.k) s.k s.m 0 0 y1 y2 y3 y4 y5 y6 y7 y8) (fun k => e61 k k 0 0 y1 y2 y3 y4 y5 y6
 y7 y8) (by
  unfold T61
  repeat' first | with_reducible exact cC | with_reducible refine cM ?_) h

noncomputable def T18l3 (O : Orc) (k m q0 q1 : Nat) (y1 : Nat) (y2 : List V) (y3 : Nat) (y4 : List V) (y5 : Int) (y6 : Nat) (y7 : List V) (y8 : Int) (y9 : Int) (y10 : Int) (y11 : Nat) (y12 : List V)
 (y13 : Nat) (y14 : List V) (y15 : Int) (y16 : Nat) (y17 : List V) : Option V := bif decide (y5 < (↑y6 : Int)) then need (O.R 0 59 [V.sl y6 y7, V.sl y13 y14, V.int .i64 y5]) fun x1 => asTup (some x1)
 fun x2 => asSl x2[0]? fun x3 x4 => O.L 0 18 2 [true, true, true, true, true, true, false, true, false, true, false, false, true, true, false, true] [m] k [(1, V.ptr 0 0), (2, V.ptr 1 0), (4, V.sl y1
 y2), (5, V.sl y3 y4), (6, V.ref 3), (7, V.ptr 4 0), (8, V.int .i64 y5), (9, V.sl x3 x4), (10, V.int .i64 0), (11, V.int .i64 0)] [Ob.box 26 [V.sl y6 y7, V.int .i64 y8] false, Ob.box 32 [V.int .i64 y9,
 V.ref 2, V.int .i64 y10] false, Ob.nrow [] 28 y11 y12, Ob.row 22 y13 y14 true, Ob.box 26 [V.ref 5, V.int .i64 y15] false, Ob.nrow [] 28 y16 y17] else some (V.tup [V.int .i64 0, V.osl y16 y17, V.int
 .i64 y15])
theorem e18l3 (k m q0 q1 : Nat) (y1 : Nat) (y2 : List V) (y3 : Nat) (y4 : List V) (y5 : Int) (y6 : Nat) (y7 : List V) (y8 : Int) (y9 : Int) (y10 : Int) (y11 : Nat) (y12 : List V) (y13 : Nat) (y14 :
 List V) (y15 : Int) (y16 : Nat) (y17 : List V) : runL C k 18 0 [true, true, true, true, true, true, false, true] [] (m + 1) [(1, V.ptr 0 0), (2, V.ptr 1 0), (4, V.sl y1 y2), (5, V.sl y3 y4), (6, V.ref
 3), (7, V.ptr 4 0), (8, V.int .i64 y5)] [Ob.box 26 [V.sl y6 y7, V.int .i64 y8] false, Ob.box 32 [V.int .i64 y9, V.ref 2, V.int .i64 y10] false, Ob.nrow [] 28 y11 y12, Ob.row 22 y13 y14 true, Ob.box 26
 [V.ref 5, V.int .i64 y15] false, Ob.nrow [] 28 y16 y17] = T18l3 (orc C k) k m q0 q1 y1 y2 y3 y4 y5 y6 y7 y8 y9 y10 y11 y12 y13 y14 y15 y16 y17 := by kernel_rfl
theorem E18l3 (y1 : Nat) (y2 : List V) (y3 : Nat) (y4 : List V) (y5 : Int) (y6 : Nat) (y7 : List V) (y8 : Int) (y9 : Int) (y10 : Int) (y11 : Nat) (y12 : List V) (y13 : Nat) (y14 : List V) (y15 : Int)
 (y16 : Nat) (y17 : List V) {r : V} (h : T18l3 (orcE C) 0 0 0 0 y1 y2 y3 y4 y5 y6 y7 y8 y9 y10 y11 y12 y13 y14 y15 y16 y17 = some r) : loopE C 18 0 [true, true, true, true, true, true, false, true] []
 [(1, V.ptr 0 0), (2, V.ptr 1 0), (4, V.sl y1 y2), (5, V.sl y3 y4), (6, V.ref 3), (7, V.ptr 4 0), (8, V.int .i64 y5)] [Ob.box 26 [V.sl y6 y7, V.int .i64 y8] false, Ob.box 32 [V.int .i64 y9, V.ref 2,
 V.int .i64 y10] false, Ob.nrow [] 28 y11 y12, Ob.row 22 y13 y14 true, Ob.box 26 [V.ref 5, V.int .i64 y15] false, Ob.nrow [] 28 y16 y17] = some r := ofL (j := 0) (F := fun s => T18l3 (orc C s.k) s.k
 s.m 0 0 y1 y2 y3 y4 y5 y6 y7 y8 y9 y10 y11 y12 y13 y14 y15 y16 y17) (fs0 fun k m => e18l3 k m 0 0 y1 y2 y3 y4 y5 y6 y7 y8 y9 y10 y11 y12 y13 y14 y15 y16 y17) (by
  unfold T18l3
  repeat' first | with_reducible exact cC | with_reducible refine cN cR fun _ => ?_ | with_reducible refine cT fun _ => ?_ | with_reducible refine cF ?_ ?_ | with_reducible refine cL fun _ _ => ?_ | with_reducible refine cN cC fun _ => ?_ | with_reducible exact cR | exact cD1 gK gM) h

noncomputable def T48 (O : Orc) (k m q0 q1 : Nat) (y1 : Nat) (y2 : List V) (y3 : Int) (y4 : Int) (y5 : Int) (y6 : Nat) (y7 : List V) (y8 : Int) : Option V := need (O.R 0 52 [V.agg [V.sl y1 y2, V.int
 .i64 y3, V.int .i64 y4, V.int .i64 y5, V.sl y6 y7, V.int .i64 y8]]) fun x1 => asTup (some x1) fun x2 => PI.asInt .i64 x2[0]? fun x3 => bif x3 != 0 then some (V.tup [V.int .i64 x3]) else need (O.R 0
 108 [V.agg [V.sl y1 y2, V.int .i64 y3, V.int .i64 y4, V.int .i64 y5, V.sl y6 y7, V.int .i64 y8]]) fun x4 => asTup (some x4) fun x5 => PI.asBool x5[0]? fun x6 => bif !x6 then some (V.tup [V.int .i64
 6]) else some (V.tup [V.int .i64 0])
theorem e48 (k m q0 q1 : Nat) (y1 : Nat) (y2 : List V) (y3 : Int) (y4 : Int) (y5 : Int) (y6 : Nat) (y7 : List V) (y8 : Int) : runV C (k + 1) 48 [V.agg [V.sl y1 y2, V.int .i64 y3, V.int .i64 y4, V.int
 .i64 y5, V.sl y6 y7, V.int .i64 y8]] = T48 (orc C k) k m q0 q1 y1 y2 y3 y4 y5 y6 y7 y8 := by kernel_rfl
theorem E48 (y1 : Nat) (y2 : List V) (y3 : Int) (y4 : Int) (y5 : Int) (y6 : Nat) (y7 : List V) (y8 : Int) {r : V} (h : T48 (orcE C) 0 0 0 0 y1 y2 y3 y4 y5 y6 y7 y8 = some r) : runE C 48 [V.agg [V.sl y1
 y2, V.int .i64 y3, V.int .i64 y4, V.int .i64 y5, V.sl y6 y7, V.int .i64 y8]] = some r := ofR (F := fun s => T48 (orc C s.k) s.k s.m 0 0 y1 y2 y3 y4 y5 y6 y7 y8) (fun k => e48 k k 0 0 y1 y2 y3 y4 y5 y6
 y7 y8) (by
  unfold T48
  repeat' first | with_reducible exact cC | with_reducible refine cN cR fun _ => ?_ | with_reducible refine cT fun _ => ?_ | with_reducible refine cI fun _ => ?_ | with_reducible refine cF ?_ ?_ | with_reducible refine cB fun _ => ?_ | with_reducible refine cN cC fun _ => ?_ | with_reducible exact cR) h

noncomputable def T49 (O : Orc) (k m q0 q1 : Nat) (y1 : Nat) (y2 : List V) (y3 : Int) (y4 : Int) (y5 : Int) (y6 : Nat) (y7 : List V) (y8 : Int) : Option V := bif y3 == 0 then bif y5 == 0 then need (O.R
 0 78 [V.sl y1 y2, V.sl 32 [V.int .u8 0, V.int .u8 0, V.int .u8 0, V.int .u8 0, V.int .u8 0, V.int .u8 0, V.int .u8 0, V.int .u8 0, V.int .u8 0, V.int .u8 0, V.int .u8 0, V.int .u8 0, V.int .u8 0,
 V.int .u8 0, V.int .u8 0, V.int .u8 0, V.int .u8 0, V.int .u8 0, V.int .u8 0, V.int .u8 0, V.int .u8 0, V.int .u8 0, V.int .u8 0, V.int .u8 0, V.int .u8 0, V.int .u8 0, V.int .u8 0, V.int .u8 0, V.int
 .u8 0, V.int .u8 0, V.int .u8 0, V.int .u8 0]]) fun x1 => asTup (some x1) fun x2 => PI.asBool x2[0]? fun x3 => some (V.tup [V.bool x3]) else some (V.tup [V.bool false]) else some (V.tup [V.bool
 false])
theorem e49 (k m q0 q1 : Nat) (y1 : Nat) (y2 : List V) (y3 : Int) (y4 : Int) (y5 : Int) (y6 : Nat) (y7 : List V) (y8 : Int) : runV C (k + 1) 49 [V.agg [V.sl y1 y2, V.int .i64 y3, V.int .i64 y4, V.int
 .i64 y5, V.sl y6 y7, V.int .i64 y8]] = T49 (orc C k) k m q0 q1 y1 y2 y3 y4 y5 y6 y7 y8 := by kernel_rfl
theorem E49 (y1 : Nat) (y2 : List V) (y3 : Int) (y4 : Int) (y5 : Int) (y6 : Nat) (y7 : List V) (y8 : Int) {r : V} (h : T49 (orcE C) 0 0 0 0 y1 y2 y3 y4 y5 y6 y7 y8 = some r) : runE C 49 [V.agg [V.sl y1
 y2, V.int .i64 y3, V.int .i64 y4, V.int .i64 y5, V.sl y6 y7, V.int .i64 y8]] = some r := ofR (F := fun s => T49 (orc C s.k) s.k s.m 0 0 y1 y2 y3 y4 y5 y6 y7 y8) (fun k => e49 k k 0 0 y1 y2 y3 y4 y5 y6
 y7 y8) (by
  unfold T49
  repeat' first | with_reducible exact cC | with_reducible refine cN cR fun _ => ?_ | with_reducible refine cT fun _ => ?_ | with_reducible refine cF ?_ ?_ | with_reducible refine cB fun _ => ?_ | with_reducible refine cN cC fun _ => ?_ | with_reducible exact cR) h

noncomputable def T50 (O : Orc) (k m q0 q1 : Nat) (y1 : Nat) (y2 : List V) (y3 : Nat) (y4 : List V) (y5 : Int) (y6 : Int) (y7 : Int) (y8 : Nat) (y9 : List V) (y10 : Int) : Option V := need (O.R 7 53
 [V.agg [V.sl y3 y4, V.int .i64 y5, V.int .i64 y6, V.int .i64 y7, V.sl y8 y9, V.int .i64 y10]]) fun x1 => asTup (some x1) fun x2 => asSl x2[0]? fun x3 x4 => need (O.R 6 174 [V.sl y1 y2, V.fn 110 [V.pin
 [V.sl x3 x4] 0]]) fun x5 => asTup (some x5) fun x6 => PI.asInt .i64 x6[0]? fun x7 => bif decide (x7 ≥ 0) then some (V.tup [V.int .i64 7]) else need (O.R 7 111 [V.sl y1 y2, V.agg [V.sl y3 y4, V.int
 .i64 y5, V.int .i64 y6, V.int .i64 y7, V.sl y8 y9, V.int .i64 y10]]) fun x8 => asTup (some x8) fun x9 => PI.asInt .i64 x9[0]? fun x10 => bif decide (x10 < 0) then some (V.tup [V.int .i64 4]) else must
 (inB x10 y1) (PI.asInt .i64 y2[x10.toNat * 6 + 1]? fun x11 => bif y5 != IntKind.i64.wrap (x11 + 1) then some (V.tup [V.int .i64 1]) else must (inB x10 y1) (PI.asInt .i64 y2[x10.toNat * 6 + 2]? fun x12
 => bif decide (y6 ≤ x12) then some (V.tup [V.int .i64 1]) else need (O.R 7 107 [V.sl y1 y2, V.int .i64 x10]) fun x13 => asTup (some x13) fun x14 => asOsl x14[0]? fun x15 x16 => need (O.R 7 106 [V.sl
 y1 y2, V.sl x15 x16]) fun x17 => asTup (some x17) fun x18 => asSl x18[0]? fun x19 x20 => need (O.R 7 112 [V.sl x19 x20]) fun x21 => asTup (some x21) fun x22 => PI.asInt .i64 x22[0]? fun x23 => bif y7
 != x23 then some (V.tup [V.int .i64 1]) else some (V.tup [V.int .i64 0])))
theorem e50 (k m q0 q1 : Nat) (y1 : Nat) (y2 : List V) (y3 : Nat) (y4 : List V) (y5 : Int) (y6 : Int) (y7 : Int) (y8 : Nat) (y9 : List V) (y10 : Int) : runV C (k + 8) 50 [V.sl y1 y2, V.agg [V.sl y3 y4,
 V.int .i64 y5, V.int .i64 y6, V.int .i64 y7, V.sl y8 y9, V.int .i64 y10]] = T50 (orc C k) k m q0 q1 y1 y2 y3 y4 y5 y6 y7 y8 y9 y10 := by kernel_rfl
theorem E50 (y1 : Nat) (y2 : List V) (y3 : Nat) (y4 : List V) (y5 : Int) (y6 : Int) (y7 : Int) (y8 : Nat) (y9 : List V) (y10 : Int) {r : V} (h : T50 (orcE C) 0 0 0 0 y1 y2 y3 y4 y5 y6 y7 y8 y9 y10 =
 some r) : runE C 50 [V.sl y1 y2, V.agg [V.sl y3 y4, V.int .i64 y5, V.int .i64 y6, V.int .i64 y7, V.sl y8 y9, V.int .i64 y10]] = some r := ofR (F := fun s => T50 (orc C s.k) s.k s.m 0 0 y1 y2 y3 y4 y5
 y6 y7 y8 y9 y10) (fun k => e50 k k 0 0 y1 y2 y3 y4 y5 y6 y7 y8 y9 y10) (by
  unfold T50
  repeat' first | with_reducible exact cC | with_reducible refine cN cR fun _ => ?_ | with_reducible refine cT fun _ => ?_ | with_reducible refine cI fun _ => ?_ | with_reducible refine cM ?_ | with_reducible refine cF ?_ ?_ | with_reducible refine cL fun _ _ => ?_ | with_reducible refine cO fun _ _ => ?_ | with_reducible refine cN cC fun _ => ?_ | with_reducible exact cR) h

noncomputable def T46 (O : Orc) (k m q0 q1 : Nat) (y1 : Nat) (y2 : List V) : Option V := O.L 0 46 0 [true, true, false, true] [] k [(0, V.sl y1 y2), (3, V.int .i64 0), (4, V.int .i64 (-1)), (10, V.int
 .i64 (↑y1 : Int)), (11, V.int .i64 0)] []
theorem e46 (k m q0 q1 : Nat) (y1 : Nat) (y2 : List V) : runV C (k + 1) 46 [V.sl y1 y2] = T46 (orc C k) k m q0 q1 y1 y2 := by kernel_rfl
theorem E46 (y1 : Nat) (y2 : List V) {r : V} (h : T46 (orcE C) 0 0 0 0 y1 y2 = some r) : runE C 46 [V.sl y1 y2] = some r := ofR (F := fun s => T46 (orc C s.k) s.k s.m 0 0 y1 y2) (fun k => e46 k k 0 0
 y1 y2) (by
  unfold T46
  repeat' first | with_reducible exact cC | exact cD0 gK) h

noncomputable def T107 (O : Orc) (k m q0 q1 : Nat) (y1 : Nat) (y2 : List V) (y3 : Int) : Option V := O.L 0 107 0 [true, true] [] k [(0, V.sl y1 y2), (1, V.int .i64 y3), (5, V.ref 0)] [Ob.row 2 0 []
 false]
theorem e107 (k m q0 q1 : Nat) (y1 : Nat) (y2 : List V) (y3 : Int) : runV C (k + 1) 107 [V.sl y1 y2, V.int .i64 y3] = T107 (orc C k) k m q0 q1 y1 y2 y3 := by kernel_rfl
theorem E107 (y1 : Nat) (y2 : List V) (y3 : Int) {r : V} (h : T107 (orcE C) 0 0 0 0 y1 y2 y3 = some r) : runE C 107 [V.sl y1 y2, V.int .i64 y3] = some r := ofR (F := fun s => T107 (orc C s.k) s.k s.m 0
 0 y1 y2 y3) (fun k => e107 k k 0 0 y1 y2 y3) (by
  unfold T107
  repeat' first | with_reducible exact cC | exact cD0 gK) h

noncomputable def T104 (O : Orc) (k m q0 q1 : Nat) (y1 : Nat) (y2 : List V) (y3 : Nat) (y4 : List V) (y5 : Int) (y6 : Nat) (y7 : List V) (y8 : Int) (y9 : Int) (y10 : Int) (y11 : Nat) (y12 : List V)
 (y13 : Int) : Option V := need (O.R 0 171 [V.sl y1 y2, V.fn 105 [V.pin [V.sl y3 y4, V.int .i64 y5] 0, V.pin [V.sl y6 y7, V.int .i64 y8, V.int .i64 y9, V.int .i64 y10, V.sl y11 y12, V.int .i64 y13]
 0]]) fun x1 => asTup (some x1) fun x2 => PI.asInt .i64 x2[0]? fun x3 => bif x3 == (-1) then some (V.tup [V.sl y1 y2, V.sl y3 y4, V.int .i64 y5, V.sl y6 y7, V.int .i64 y8, V.int .i64 y9, V.int .i64
 y10, V.sl y11 y12, V.int .i64 y13]) else O.X 0 104 [] [Ob.row 2 0 [] false, Ob.box 26 [V.u, V.u] false, Ob.box 28 [V.u, V.u, V.u, V.u, V.u, V.u] false] 0 [true, true, true, false, true] [] k [(0,
 V.ref 0), (1, V.fn 105 [V.ptr 1 0, V.ptr 2 0]), (5, V.int .i64 x3), (6, V.int .i64 (IntKind.i64.wrap (x3 + 1)))] [Ob.row 2 y1 y2 false, Ob.box 26 [V.sl y3 y4, V.int .i64 y5] false, Ob.box 28 [V.sl y6
 y7, V.int .i64 y8, V.int .i64 y9, V.int .i64 y10, V.sl y11 y12, V.int .i64 y13] false]
theorem e104 (k m q0 q1 : Nat) (y1 : Nat) (y2 : List V) (y3 : Nat) (y4 : List V) (y5 : Int) (y6 : Nat) (y7 : List V) (y8 : Int) (y9 : Int) (y10 : Int) (y11 : Nat) (y12 : List V) (y13 : Int) : runW C (k
 + 1) 104 [] [V.ref 0, V.fn 105 [V.ptr 1 0, V.ptr 2 0]] [Ob.row 2 y1 y2 false, Ob.box 26 [V.sl y3 y4, V.int .i64 y5] false, Ob.box 28 [V.sl y6 y7, V.int .i64 y8, V.int .i64 y9, V.int .i64 y10, V.sl y11
 y12, V.int .i64 y13] false] = T104 (orc C k) k m q0 q1 y1 y2 y3 y4 y5 y6 y7 y8 y9 y10 y11 y12 y13 := by kernel_rfl
theorem E104 (y1 : Nat) (y2 : List V) (y3 : Nat) (y4 : List V) (y5 : Int) (y6 : Nat) (y7 : List V) (y8 : Int) (y9 : Int) (y10 : Int) (y11 : Nat) (y12 : List V) (y13 : Int) {r : V} (h : T104 (orcE C) 0
 0 0 0 y1 y2 y3 y4 y5 y6 y7 y8 y9 y10 y11 y12 y13 = some r) : runWE C 104 [] [V.ref 0, V.fn 105 [V.ptr 1 0, V.ptr 2 0]] [Ob.row 2 y1 y2 false, Ob.box 26 [V.sl y3 y4, V.int .i64 y5] false, Ob.box 28
 [V.sl y6 y7, V.int .i64 y8, V.int .i64 y9, V.int .i64 y10, V.sl y11 y12, V.int .i64 y13] false] = some r := ofW (F := fun s => T104 (orc C s.k) s.k s.m 0 0 y1 y2 y3 y4 y5 y6 y7 y8 y9 y10 y11 y12 y13)
 (fun k => e104 k k 0 0 y1 y2 y3 y4 y5 y6 y7 y8 y9 y10 y11 y12 y13) (by
  unfold T104
  repeat' first | with_reducible exact cC | with_reducible refine cN cR fun _ => ?_ | with_reducible refine cT fun _ => ?_ | with_reducible refine cI fun _ => ?_ | with_reducible refine cF ?_ ?_ | with_reducible refine cN cC fun _ => ?_ | with_reducible exact cR | exact cX0 gK) h

noncomputable def T55l2 (O : Orc) (k m q0 q1 : Nat) (y1 : Nat) (y2 : List V) (y3 : Int) (y4 : Int) (y5 : Nat) (y6 : List V) (y7 : Int) (y8 : Int) (y9 : Int) (y10 : Int) (y11 : Nat) (y12 : List V) (y13
 : Int) (y14 : Int) (y15 : Nat) (y16 : List V) (y17 : Nat) (y18 : List V) (y19 : Nat) (y20 : List V) (y21 : Nat) (y22 : List V) (y23 : Int) (y24 : Int) (y25 : Int) (y26 : Nat) (y27 : List V) (y28 :
 Int) (y29 : Nat) (y30 : List V) : Option V := bif decide (y10 < y9) then must (inB y10 y29) (PI.asInt .i64 y30[y10.toNat * 1]? fun x1 => need (O.R 0 114 [V.sl y17 y18, V.int .i64 x1]) fun x2 => asTup
 (some x2) fun x3 => PI.asBool x3[0]? fun x4 => bif x4 then O.L 0 55 2 [true, true, false, true, false, true, true, false, false, true, true, false, true] [q0] m [(1, V.ptr 0 0), (2, V.ptr 1 0), (3,
 V.ref 3), (4, V.sl y1 y2), (5, V.ref 4), (6, V.int .i64 y3), (7, V.ptr 5 0), (8, V.int .i64 x1), (17, V.sl y5 y6), (18, V.int .i64 y7), (19, V.int .i64 y8), (27, V.ref 6), (28, V.int .i64 y9), (29,
 V.int .i64 (IntKind.i64.wrap (y10 + 1)))] [Ob.box 26 [V.sl y11 y12, V.int .i64 y13] false, Ob.box 26 [V.ref 2, V.int .i64 y14] false, Ob.nrow [] 28 y15 y16, Ob.row 2 y17 y18 false, Ob.row 28 y19 y20
 false, Ob.box 28 [V.sl y21 y22, V.int .i64 y23, V.int .i64 y24, V.int .i64 y25, V.sl y26 y27, V.int .i64 y28] false, Ob.row 2 y29 y30 false] else O.L 0 55 2 [true, true, false, true, false, true,
 true, false, false, true, true, false, true] [q0] m [(1, V.ptr 0 0), (2, V.ptr 1 0), (3, V.ref 3), (4, V.sl y1 y2), (5, V.ref 4), (6, V.int .i64 y3), (7, V.ptr 5 0), (8, V.int .i64 y4), (17, V.sl y5
 y6), (18, V.int .i64 y7), (19, V.int .i64 y8), (27, V.ref 6), (28, V.int .i64 y9), (29, V.int .i64 (IntKind.i64.wrap (y10 + 1)))] [Ob.box 26 [V.sl y11 y12, V.int .i64 y13] false, Ob.box 26 [V.ref 2,
 V.int .i64 y14] false, Ob.nrow [] 28 y15 y16, Ob.row 2 y17 y18 false, Ob.row 28 y19 y20 false, Ob.box 28 [V.sl y21 y22, V.int .i64 y23, V.int .i64 y24, V.int .i64 y25, V.sl y26 y27, V.int .i64 y28]
 false, Ob.row 2 y29 y30 false]) else need (O.R 0 114 [V.sl y17 y18, V.int .i64 y3]) fun x5 => asTup (some x5) fun x6 => PI.asBool x6[0]? fun x7 => bif x7 then must (true && (y19 + 1).ble
 140737488355328 && ((y19 + 1) * 80).ble 140737488355328) (O.L 0 55 0 [true, true, false, true] [] q0 [(1, V.ptr 0 0), (2, V.ptr 1 0), (3, V.ref 3), (4, V.sl y1 y2), (5, V.ref 4), (17, V.sl y5 y6),
 (18, V.int .i64 y7), (19, V.int .i64 (IntKind.i64.wrap (y8 + 1)))] [Ob.box 26 [V.sl y11 y12, V.int .i64 y13] false, Ob.box 26 [V.ref 2, V.int .i64 y14] false, Ob.nrow [] 28 y15 y16, Ob.row 2 y17 y18
 false, Ob.row 28 (y19 + 1) (y20 ++ [V.sl y21 y22, V.int .i64 y23, V.int .i64 y24, V.int .i64 y25, V.sl y26 y27, V.int .i64 y28]) false]) else need (O.R 0 114 [V.sl y1 y2, V.int .i64 y4]) fun x8 =>
 asTup (some x8) fun x9 => PI.asBool x9[0]? fun x10 => bif !x10 then must (true && (y19 + 1).ble 140737488355328 && ((y19 + 1) * 80).ble 140737488355328) (O.L 0 55 0 [true, true, false, true] [] q0
 [(1, V.ptr 0 0), (2, V.ptr 1 0), (3, V.ref 3), (4, V.sl y1 y2), (5, V.ref 4), (17, V.sl y5 y6), (18, V.int .i64 y7), (19, V.int .i64 (IntKind.i64.wrap (y8 + 1)))] [Ob.box 26 [V.sl y11 y12, V.int .i64
 y13] false, Ob.box 26 [V.ref 2, V.int .i64 y14] false, Ob.nrow [] 28 y15 y16, Ob.row 2 y17 y18 false, Ob.row 28 (y19 + 1) (y20 ++ [V.sl y21 y22, V.int .i64 y23, V.int .i64 y24, V.int .i64 y25, V.sl
 y26 y27, V.int .i64 y28]) false]) else O.L 0 55 0 [true, true, false, true] [] q0 [(1, V.ptr 0 0), (2, V.ptr 1 0), (3, V.ref 3), (4, V.sl y1 y2), (5, V.ref 4), (17, V.sl y5 y6), (18, V.int .i64 y7),
 (19, V.int .i64 (IntKind.i64.wrap (y8 + 1)))] [Ob.box 26 [V.sl y11 y12, V.int .i64 y13] false, Ob.box 26 [V.ref 2, V.int .i64 y14] false, Ob.nrow [] 28 y15 y16, Ob.row 2 y17 y18 false, Ob.row 28 y19
 y20 false]
theorem e55l2 (k m q0 q1 : Nat) (y1 : Nat) (y2 : List V) (y3 : Int) (y4 : Int) (y5 : Nat) (y6 : List V) (y7 : Int) (y8 : Int) (y9 : Int) (y10 : Int) (y11 : Nat) (y12 : List V) (y13 : Int) (y14 : Int)
 (y15 : Nat) (y16 : List V) (y17 : Nat) (y18 : List V) (y19 : Nat) (y20 : List V) (y21 : Nat) (y22 : List V) (y23 : Int) (y24 : Int) (y25 : Int) (y26 : Nat) (y27 : List V) (y28 : Int) (y29 : Nat) (y30
 : List V) : runL C k 55 2 [true, true, false, true, false, true, true, false, false, true, true, false, true] [q0] (m + 1) [(1, V.ptr 0 0), (2, V.ptr 1 0), (3, V.ref 3), (4, V.sl y1 y2), (5, V.ref 4),
 (6, V.int .i64 y3), (7, V.ptr 5 0), (8, V.int .i64 y4), (17, V.sl y5 y6), (18, V.int .i64 y7), (19, V.int .i64 y8), (27, V.ref 6), (28, V.int .i64 y9), (29, V.int .i64 y10)] [Ob.box 26 [V.sl y11 y12,
 V.int .i64 y13] false, Ob.box 26 [V.ref 2, V.int .i64 y14] false, Ob.nrow [] 28 y15 y16, Ob.row 2 y17 y18 false, Ob.row 28 y19 y20 false, Ob.box 28 [V.sl y21 y22, V.int .i64 y23, V.int .i64 y24, V.int
 .i64 y25, V.sl y26 y27, V.int .i64 y28] false, Ob.row 2 y29 y30 false] = T55l2 (orc C k) k m q0 q1 y1 y2 y3 y4 y5 y6 y7 y8 y9 y10 y11 y12 y13 y14 y15 y16 y17 y18 y19 y20 y21 y22 y23 y24 y25 y26 y27
 y28 y29 y30 := by kernel_rfl
theorem E55l2 (y1 : Nat) (y2 : List V) (y3 : Int) (y4 : Int) (y5 : Nat) (y6 : List V) (y7 : Int) (y8 : Int) (y9 : Int) (y10 : Int) (y11 : Nat) (y12 : List V) (y13 : Int) (y14 : Int) (y15 : Nat) (y16 :
 List V) (y17 : Nat) (y18 : List V) (y19 : Nat) (y20 : List V) (y21 : Nat) (y22 : List V) (y23 : Int) (y24 : Int) (y25 : Int) (y26 : Nat) (y27 : List V) (y28 : Int) (y29 : Nat) (y30 : List V) {r : V}
 (h : T55l2 (orcE C) 0 0 0 0 y1 y2 y3 y4 y5 y6 y7 y8 y9 y10 y11 y12 y13 y14 y15 y16 y17 y18 y19 y20 y21 y22 y23 y24 y25 y26 y27 y28 y29 y30 = some r) : loopE C 55 2 [true, true, false, true, false,
 true, true, false, false, true, true, false, true] [0] [(1, V.ptr 0 0), (2, V.ptr 1 0), (3, V.ref 3), (4, V.sl y1 y2), (5, V.ref 4), (6, V.int .i64 y3), (7, V.ptr 5 0), (8, V.int .i64 y4), (17, V.sl
 y5 y6), (18, V.int .i64 y7), (19, V.int .i64 y8), (27, V.ref 6), (28, V.int .i64 y9), (29, V.int .i64 y10)] [Ob.box 26 [V.sl y11 y12, V.int .i64 y13] false, Ob.box 26 [V.ref 2, V.int .i64 y14] false,
 Ob.nrow [] 28 y15 y16, Ob.row 2 y17 y18 false, Ob.row 28 y19 y20 false, Ob.box 28 [V.sl y21 y22, V.int .i64 y23, V.int .i64 y24, V.int .i64 y25, V.sl y26 y27, V.int .i64 y28] false, Ob.row 2 y29 y30
 false] = some r := ofL (j := 0) (F := fun s => T55l2 (orc C s.k) s.k s.m (s.fs.getD 0 0) 0 y1 y2 y3 y4 y5 y6 y7 y8 y9 y10 y11 y12 y13 y14 y15 y16 y17 y18 y19 y20 y21 y22 y23 y24 y25 y26 y27 y28 y29
 y30) (fs1 fun k m q0 => e55l2 k m q0 0 y1 y2 y3 y4 y5 y6 y7 y8 y9 y10 y11 y12 y13 y14 y15 y16 y17 y18 y19 y20 y21 y22 y23 y24 y25 y26 y27 y28 y29 y30) (by
  unfold T55l2
  repeat' first | with_reducible exact cC | with_reducible refine cN cR fun _ => ?_ | with_reducible refine cT fun _ => ?_ | with_reducible refine cI fun _ => ?_ | with_reducible refine cM ?_ | with_reducible refine cF ?_ ?_ | with_reducible refine cB fun _ => ?_ | with_reducible refine cN cC fun _ => ?_ | with_reducible exact cR | exact cD0 (gF (i := 0) (by decide)) | exact cD1 gM (gF (i := 0) (by decide))) h

noncomputable def T40 (O : Orc) (k m q0 q1 : Nat) (y1 : Nat) (y2 : List V) (y3 : Int) : Option V := O.L 0 40 0 [true, true, false, true] [] k [(4, V.ptr 0 0), (5, V.ptr 2 0), (10, V.sl y1 y2), (11,
 V.int .i64 (↑y1 : Int)), (12, V.int .i64 0)] [Ob.box 26 [V.ref 1, V.int .i64 0] false, Ob.nrow [] 28 0 [], Ob.box 26 [V.ref 3, V.int .i64 y3] false, Ob.nrow [] 28 0 []]
theorem e40 (k m q0 q1 : Nat) (y1 : Nat) (y2 : List V) (y3 : Int) : runV C (k + 1) 40 [V.sl y1 y2, V.int .i64 y3] = T40 (orc C k) k m q0 q1 y1 y2 y3 := by kernel_rfl
theorem E40 (y1 : Nat) (y2 : List V) (y3 : Int) {r : V} (h : T40 (orcE C) 0 0 0 0 y1 y2 y3 = some r) : runE C 40 [V.sl y1 y2, V.int .i64 y3] = some r := ofR (F := fun s => T40 (orc C s.k) s.k s.m 0 0
 y1 y2 y3) (fun k => e40 k k 0 0 y1 y2 y3) (by
  unfold T40
  repeat' first | with_reducible exact cC | exact cD0 gK) h

noncomputable def T126 (O : Orc) (k m q0 q1 : Nat) (y1 : Nat) (y2 : List V) (y3 : Int) (y4 : Int) (y5 : Int) (y6 : Nat) (y7 : List V) (y8 : Int) (y9 : Nat) (y10 : List V) (y11 : Int) (y12 : Int) (y13 :
 Int) (y14 : Nat) (y15 : List V) (y16 : Int) : Option V := need (O.R 0 184 [V.sl y1 y2, V.sl y9 y10]) fun x1 => asTup (some x1) fun x2 => PI.asBool x2[0]? fun x3 => bif !x3 then some (V.tup [V.bool
 false]) else bif y3 != y11 then some (V.tup [V.bool false]) else bif y4 != y12 then some (V.tup [V.bool false]) else bif y5 != y13 then some (V.tup [V.bool false]) else need (O.R 0 184 [V.sl y6 y7,
 V.sl y14 y15]) fun x4 => asTup (some x4) fun x5 => PI.asBool x5[0]? fun x6 => bif !x6 then some (V.tup [V.bool false]) else bif y8 != y16 then some (V.tup [V.bool false]) else some (V.tup [V.bool
 true])
theorem e126 (k m q0 q1 : Nat) (y1 : Nat) (y2 : List V) (y3 : Int) (y4 : Int) (y5 : Int) (y6 : Nat) (y7 : List V) (y8 : Int) (y9 : Nat) (y10 : List V) (y11 : Int) (y12 : Int) (y13 : Int) (y14 : Nat)
 (y15 : List V) (y16 : Int) : runV C (k + 1) 126 [V.agg [V.sl y1 y2, V.int .i64 y3, V.int .i64 y4, V.int .i64 y5, V.sl y6 y7, V.int .i64 y8], V.agg [V.sl y9 y10, V.int .i64 y11, V.int .i64 y12, V.int
 .i64 y13, V.sl y14 y15, V.int .i64 y16]] = T126 (orc C k) k m q0 q1 y1 y2 y3 y4 y5 y6 y7 y8 y9 y10 y11 y12 y13 y14 y15 y16 := by kernel_rfl
theorem E126 (y1 : Nat) (y2 : List V) (y3 : Int) (y4 : Int) (y5 : Int) (y6 : Nat) (y7 : List V) (y8 : Int) (y9 : Nat) (y10 : List V) (y11 : Int) (y12 : Int) (y13 : Int) (y14 : Nat) (y15 : List V) (y16
 : Int) {r : V} (h : T126 (orcE C) 0 0 0 0 y1 y2 y3 y4 y5 y6 y7 y8 y9 y10 y11 y12 y13 y14 y15 y16 = some r) : runE C 126 [V.agg [V.sl y1 y2, V.int .i64 y3, V.int .i64 y4, V.int .i64 y5, V.sl y6 y7,
 V.int .i64 y8], V.agg [V.sl y9 y10, V.int .i64 y11, V.int .i64 y12, V.int .i64 y13, V.sl y14 y15, V.int .i64 y16]] = some r := ofR (F := fun s => T126 (orc C s.k) s.k s.m 0 0 y1 y2 y3 y4 y5 y6 y7 y8
 y9 y10 y11 y12 y13 y14 y15 y16) (fun k => e126 k k 0 0 y1 y2 y3 y4 y5 y6 y7 y8 y9 y10 y11 y12 y13 y14 y15 y16) (by
  unfold T126
  repeat' first | with_reducible exact cC | with_reducible refine cN cR fun _ => ?_ | with_reducible refine cT fun _ => ?_ | with_reducible refine cF ?_ ?_ | with_reducible refine cB fun _ => ?_ | with_reducible refine cN cC fun _ => ?_ | with_reducible exact cR) h

noncomputable def T127 (O : Orc) (k m q0 q1 : Nat) (y1 : Int) (y2 : Nat) (y3 : List V) : Option V := O.X 0 127 [0] [Ob.row 5 0 [] false] 0 [true, false, true] [] k [(0, V.ref 0), (1, V.int .i64 y1),
 (5, V.int .i64 0)] [Ob.row 5 y2 y3 false]
theorem e127 (k m q0 q1 : Nat) (y1 : Int) (y2 : Nat) (y3 : List V) : runW C (k + 1) 127 [0] [V.ref 0, V.int .i64 y1] [Ob.row 5 y2 y3 false] = T127 (orc C k) k m q0 q1 y1 y2 y3 := by kernel_rfl
theorem E127 (y1 : Int) (y2 : Nat) (y3 : List V) {r : V} (h : T127 (orcE C) 0 0 0 0 y1 y2 y3 = some r) : runWE C 127 [0] [V.ref 0, V.int .i64 y1] [Ob.row 5 y2 y3 false] = some r := ofW (F := fun s =>
 T127 (orc C s.k) s.k s.m 0 0 y1 y2 y3) (fun k => e127 k k 0 0 y1 y2 y3) (by
  unfold T127
  repeat' first | with_reducible exact cC | exact cX0 gK) h

noncomputable def T128l1 (O : Orc) (k m q0 q1 : Nat) (y1 : Nat) (y2 : List V) (y3 : Int) (y4 : Int) : Option V := bif decide (y4 < (↑y1 : Int)) then must (inB y4 y1) (must (decide (y4.toNat * 6 + 0 <
 y2.length)) (asSl y2[y4.toNat * 6 + 0]? fun x1 x2 => need (O.R 0 185 [V.sl x1 x2, V.int .i64 y3]) fun x3 => asTup (some x3) fun x4 => PI.asInt .i64 x4[0]? fun x5 => bif decide (x5 < 0) then some
 (V.tup [V.int .i64 (-1)]) else must (inB y4 y1) (PI.asInt .i64 y2[y4.toNat * 6 + 1]? fun x6 => bif x6 != x5 then some (V.tup [V.int .i64 (-1)]) else must (inB y4 y1) (PI.asInt .i64 y2[y4.toNat * 6 +
 2]? fun x7 => bif x7 != IntKind.i64.wrap (x5 + 1) then some (V.tup [V.int .i64 (-1)]) else must (inB y4 y1) (PI.asInt .i64 y2[y4.toNat * 6 + 3]? fun x8 => bif x8 != IntKind.i64.wrap (IntKind.i64.wrap
 (x5 + 1) + 1) then some (V.tup [V.int .i64 (-1)]) else must (inB y4 y1) (must (decide (y4.toNat * 6 + 4 < y2.length)) (asSl y2[y4.toNat * 6 + 4]? fun x9 x10 => need (O.R 0 185 [V.sl x9 x10, V.int .i64
 (IntKind.i64.wrap (IntKind.i64.wrap (IntKind.i64.wrap (x5 + 1) + 1) + 1))]) fun x11 => asTup (some x11) fun x12 => PI.asInt .i64 x12[0]? fun x13 => bif decide (x13 < 0) then some (V.tup [V.int .i64
 (-1)]) else must (inB y4 y1) (PI.asInt .i64 y2[y4.toNat * 6 + 5]? fun x14 => bif x14 != x13 then some (V.tup [V.int .i64 (-1)]) else O.L 0 128 0 [true, false, true] [] m [(0, V.sl y1 y2), (1, V.int
 .i64 (IntKind.i64.wrap (x13 + 1))), (5, V.int .i64 (IntKind.i64.wrap (y4 + 1)))] [])))))))) else some (V.tup [V.int .i64 y3])
theorem e128l1 (k m q0 q1 : Nat) (y1 : Nat) (y2 : List V) (y3 : Int) (y4 : Int) : runL C k 128 0 [true, false, true] [] (m + 1) [(0, V.sl y1 y2), (1, V.int .i64 y3), (5, V.int .i64 y4)] [] = T128l1
 (orc C k) k m q0 q1 y1 y2 y3 y4 := by kernel_rfl
theorem E128l1 (y1 : Nat) (y2 : List V) (y3 : Int) (y4 : Int) {r : V} (h : T128l1 (orcE C) 0 0 0 0 y1 y2 y3 y4 = some r) : loopE C 128 0 [true, false, true] [] [(0, V.sl y1 y2), (1, V.int .i64 y3), (5,
 V.int .i64 y4)] [] = some r := ofL (j := 0) (F := fun s => T128l1 (orc C s.k) s.k s.m 0 0 y1 y2 y3 y4) (fs0 fun k m => e128l1 k m 0 0 y1 y2 y3 y4) (by
  unfold T128l1
  repeat' first | with_reducible exact cC | with_reducible refine cN cR fun _ => ?_ | with_reducible refine cT fun _ => ?_ | with_reducible refine cI fun _ => ?_ | with_reducible refine cM ?_ | with_reducible refine cF ?_ ?_ | with_reducible refine cL fun _ _ => ?_ | with_reducible refine cN cC fun _ => ?_ | with_reducible exact cR | exact cD0 gM) h

noncomputable def T182 (O : Orc) (k m q0 q1 : Nat) (y1 : Nat) (y2 : List V) (y3 : Int) : Option V := bif decide (IntKind.i64.wrap (y3 - (↑y1 : Int)) < 0) then some (V.tup [V.int .i64 (-1)]) else some
 (V.tup [V.int .i64 (IntKind.i64.wrap (y3 - (↑y1 : Int)))])
theorem e182 (k m q0 q1 : Nat) (y1 : Nat) (y2 : List V) (y3 : Int) : runV C (k + 1) 182 [V.sl y1 y2, V.int .i64 y3] = T182 (orc C k) k m q0 q1 y1 y2 y3 := by kernel_rfl
theorem E182 (y1 : Nat) (y2 : List V) (y3 : Int) {r : V} (h : T182 (orcE C) 0 0 0 0 y1 y2 y3 = some r) : runE C 182 [V.sl y1 y2, V.int .i64 y3] = some r := ofR (F := fun s => T182 (orc C s.k) s.k s.m 0
 0 y1 y2 y3) (fun k => e182 k k 0 0 y1 y2 y3) (by
  unfold T182
  repeat' first | with_reducible exact cC | with_reducible refine cF ?_ ?_) h

noncomputable def T183 (O : Orc) (k m q0 q1 : Nat) (y1 : Nat) (y2 : List V) : Option V := must (decide ((↑y1 : Int) = (↑y1 : Int)) && decide (0 ≤ (↑y1 : Int)) && decide ((↑y1 : Int) ≤ 140737488355328)
 && decide ((↑y1 : Int) * 1 ≤ 140737488355328)) (O.L 0 183 0 [true, true, false, true] [] k [(0, V.sl y1 y2), (3, V.ref 0), (4, V.int .i64 0)] [Ob.row 5 (↑y1 : Int).toNat (reps (↑y1 : Int).toNat [V.int
 .u8 0]) false])
theorem e183 (k m q0 q1 : Nat) (y1 : Nat) (y2 : List V) : runV C (k + 1) 183 [V.sl y1 y2] = T183 (orc C k) k m q0 q1 y1 y2 := by kernel_rfl
theorem E183 (y1 : Nat) (y2 : List V) {r : V} (h : T183 (orcE C) 0 0 0 0 y1 y2 = some r) : runE C 183 [V.sl y1 y2] = some r := ofR (F := fun s => T183 (orc C s.k) s.k s.m 0 0 y1 y2) (fun k => e183 k k
 0 0 y1 y2) (by
  unfold T183
  repeat' first | with_reducible exact cC | with_reducible refine cM ?_ | exact cD0 gK) h

noncomputable def T166 (O : Orc) (k m q0 q1 : Nat) (y1 : Nat) (y2 : List V) (y3 : Int) (y4 : Int) (y5 : Int) (y6 : Nat) (y7 : List V) (y8 : Int) : Option V := bif (↑y1 : Int) != 32 then some (V.tup
 [V.int .i64 1]) else bif (↑y6 : Int) != 32 then some (V.tup [V.int .i64 1]) else need (O.R 0 99 [V.int .i64 y3, V.int .i64 0, V.int .i64 1000000]) fun x1 => asTup (some x1) fun x2 => PI.asBool x2[0]?
 fun x3 => bif !x3 then some (V.tup [V.int .i64 3]) else need (O.R 0 99 [V.int .i64 y4, V.int .i64 0, V.int .i64 1099511627776]) fun x4 => asTup (some x4) fun x5 => PI.asBool x5[0]? fun x6 => bif !x6
 then some (V.tup [V.int .i64 3]) else need (O.R 0 99 [V.int .i64 y5, V.int .i64 0, V.int .i64 40]) fun x7 => asTup (some x7) fun x8 => PI.asBool x8[0]? fun x9 => bif !x9 then some (V.tup [V.int .i64
 3]) else need (O.R 0 99 [V.int .i64 y8, V.int .i64 0, V.int .i64 2199023255552]) fun x10 => asTup (some x10) fun x11 => PI.asBool x11[0]? fun x12 => bif !x12 then some (V.tup [V.int .i64 3]) else some
 (V.tup [V.int .i64 0])
theorem e166 (k m q0 q1 : Nat) (y1 : Nat) (y2 : List V) (y3 : Int) (y4 : Int) (y5 : Int) (y6 : Nat) (y7 : List V) (y8 : Int) : runV C (k + 1) 166 [V.agg [V.sl y1 y2, V.int .i64 y3, V.int .i64 y4, V.int
 .i64 y5, V.sl y6 y7, V.int .i64 y8]] = T166 (orc C k) k m q0 q1 y1 y2 y3 y4 y5 y6 y7 y8 := by kernel_rfl
theorem E166 (y1 : Nat) (y2 : List V) (y3 : Int) (y4 : Int) (y5 : Int) (y6 : Nat) (y7 : List V) (y8 : Int) {r : V} (h : T166 (orcE C) 0 0 0 0 y1 y2 y3 y4 y5 y6 y7 y8 = some r) : runE C 166 [V.agg [V.sl
 y1 y2, V.int .i64 y3, V.int .i64 y4, V.int .i64 y5, V.sl y6 y7, V.int .i64 y8]] = some r := ofR (F := fun s => T166 (orc C s.k) s.k s.m 0 0 y1 y2 y3 y4 y5 y6 y7 y8) (fun k => e166 k k 0 0 y1 y2 y3 y4
 y5 y6 y7 y8) (by
  unfold T166
  repeat' first | with_reducible exact cC | with_reducible refine cN cR fun _ => ?_ | with_reducible refine cT fun _ => ?_ | with_reducible refine cF ?_ ?_ | with_reducible refine cB fun _ => ?_ | with_reducible refine cN cC fun _ => ?_ | with_reducible exact cR) h

noncomputable def T167 (O : Orc) (k m q0 q1 : Nat) (y1 : Nat) (y2 : List V) (y3 : Int) (y4 : Int) (y5 : Int) (y6 : Nat) (y7 : List V) (y8 : Int) : Option V := need (O.R 0 168 [V.agg [V.sl y1 y2, V.int
 .i64 y3, V.int .i64 y4, V.int .i64 y5, V.sl y6 y7, V.int .i64 y8]]) fun x1 => asTup (some x1) fun x2 => asOsl x2[0]? fun x3 x4 => need (O.R 0 205 [V.sl x3 x4]) fun x5 => asTup (some x5) fun x6 =>
 PI.asInt .i64 x6[0]? fun x7 => some (V.tup [V.bool (decide (x7 ≥ y5))])
theorem e167 (k m q0 q1 : Nat) (y1 : Nat) (y2 : List V) (y3 : Int) (y4 : Int) (y5 : Int) (y6 : Nat) (y7 : List V) (y8 : Int) : runV C (k + 1) 167 [V.agg [V.sl y1 y2, V.int .i64 y3, V.int .i64 y4, V.int
 .i64 y5, V.sl y6 y7, V.int .i64 y8]] = T167 (orc C k) k m q0 q1 y1 y2 y3 y4 y5 y6 y7 y8 := by kernel_rfl
theorem E167 (y1 : Nat) (y2 : List V) (y3 : Int) (y4 : Int) (y5 : Int) (y6 : Nat) (y7 : List V) (y8 : Int) {r : V} (h : T167 (orcE C) 0 0 0 0 y1 y2 y3 y4 y5 y6 y7 y8 = some r) : runE C 167 [V.agg [V.sl
 y1 y2, V.int .i64 y3, V.int .i64 y4, V.int .i64 y5, V.sl y6 y7, V.int .i64 y8]] = some r := ofR (F := fun s => T167 (orc C s.k) s.k s.m 0 0 y1 y2 y3 y4 y5 y6 y7 y8) (fun k => e167 k k 0 0 y1 y2 y3 y4
 y5 y6 y7 y8) (by
  unfold T167
  repeat' first | with_reducible exact cC | with_reducible refine cN cR fun _ => ?_ | with_reducible refine cT fun _ => ?_ | with_reducible refine cI fun _ => ?_ | with_reducible refine cO fun _ _ => ?_ | with_reducible refine cN cC fun _ => ?_ | with_reducible exact cR) h

noncomputable def T85 (O : Orc) (k m q0 q1 : Nat) (y1 : Nat) (y2 : List V) (y3 : Nat) (y4 : List V) : Option V := need (O.R 0 154 [V.sl y1 y2, V.sl y3 y4]) fun x1 => asTup (some x1) fun x2 => PI.asInt
 .i64 x2[0]? fun x3 => some (V.tup [V.bool (x3 == 0)])
theorem e85 (k m q0 q1 : Nat) (y1 : Nat) (y2 : List V) (y3 : Nat) (y4 : List V) : runV C (k + 1) 85 [V.sl y1 y2, V.sl y3 y4] = T85 (orc C k) k m q0 q1 y1 y2 y3 y4 := by kernel_rfl
theorem E85 (y1 : Nat) (y2 : List V) (y3 : Nat) (y4 : List V) {r : V} (h : T85 (orcE C) 0 0 0 0 y1 y2 y3 y4 = some r) : runE C 85 [V.sl y1 y2, V.sl y3 y4] = some r := ofR (F := fun s => T85 (orc C s.k)
 s.k s.m 0 0 y1 y2 y3 y4) (fun k => e85 k k 0 0 y1 y2 y3 y4) (by
  unfold T85
  repeat' first | with_reducible exact cC | with_reducible refine cN cR fun _ => ?_ | with_reducible refine cT fun _ => ?_ | with_reducible refine cI fun _ => ?_ | with_reducible refine cN cC fun _ => ?_ | with_reducible exact cR) h

noncomputable def T168 (O : Orc) (k m q0 q1 : Nat) (y1 : Nat) (y2 : List V) (y3 : Int) (y4 : Int) (y5 : Int) (y6 : Nat) (y7 : List V) (y8 : Int) : Option V := need (O.R 0 206 [V.agg [V.sl y1 y2, V.int
 .i64 y3, V.int .i64 y4, V.int .i64 y5, V.sl y6 y7, V.int .i64 y8]]) fun x1 => asTup (some x1) fun x2 => asSl x2[0]? fun x3 x4 => need (O.R 0 135 [V.sl x3 x4]) fun x5 => asTup (some x5) fun x6 => asOsl
 x6[0]? fun x7 x8 => need (O.R 0 134 [V.int .i64 y8]) fun x9 => asTup (some x9) fun x10 => asSl x10[0]? fun x11 x12 => must (decide (x12.length = x11 * 1)) (must (true && (x7 + x11).ble 140737488355328
 && ((x7 + x11) * 1).ble 140737488355328) (need (O.R 0 187 [V.sl (x7 + x11) (x8 ++ x12)]) fun x13 => asTup (some x13) fun x14 => asOsl x14[0]? fun x15 x16 => must (false || x16.all flatV) (some (V.tup
 [V.osl x15 x16]))))
theorem e168 (k m q0 q1 : Nat) (y1 : Nat) (y2 : List V) (y3 : Int) (y4 : Int) (y5 : Int) (y6 : Nat) (y7 : List V) (y8 : Int) : runV C (k + 1) 168 [V.agg [V.sl y1 y2, V.int .i64 y3, V.int .i64 y4, V.int
 .i64 y5, V.sl y6 y7, V.int .i64 y8]] = T168 (orc C k) k m q0 q1 y1 y2 y3 y4 y5 y6 y7 y8 := by kernel_rfl
theorem E168 (y1 : Nat) (y2 : List V) (y3 : Int) (y4 : Int) (y5 : Int) (y6 : Nat) (y7 : List V) (y8 : Int) {r : V} (h : T168 (orcE C) 0 0 0 0 y1 y2 y3 y4 y5 y6 y7 y8 = some r) : runE C 168 [V.agg [V.sl
 y1 y2, V.int .i64 y3, V.int .i64 y4, V.int .i64 y5, V.sl y6 y7, V.int .i64 y8]] = some r := ofR (F := fun s => T168 (orc C s.k) s.k s.m 0 0 y1 y2 y3 y4 y5 y6 y7 y8) (fun k => e168 k k 0 0 y1 y2 y3 y4
 y5 y6 y7 y8) (by
  unfold T168
  repeat' first | with_reducible exact cC | with_reducible refine cN cR fun _ => ?_ | with_reducible refine cT fun _ => ?_ | with_reducible refine cM ?_ | with_reducible refine cL fun _ _ => ?_ | with_reducible refine cO fun _ _ => ?_ | with_reducible refine cN cC fun _ => ?_ | with_reducible exact cR) h

noncomputable def T123 (O : Orc) (k m q0 q1 : Nat) (y1 : Nat) (y2 : List V) (y3 : Nat) (y4 : List V) : Option V := O.L 0 123 0 [true, false, true] [] k [(0, V.sl y1 y2), (1, V.sl y3 y4), (5, V.int .i64
 0)] []
theorem e123 (k m q0 q1 : Nat) (y1 : Nat) (y2 : List V) (y3 : Nat) (y4 : List V) : runV C (k + 1) 123 [V.sl y1 y2, V.sl y3 y4] = T123 (orc C k) k m q0 q1 y1 y2 y3 y4 := by kernel_rfl
theorem E123 (y1 : Nat) (y2 : List V) (y3 : Nat) (y4 : List V) {r : V} (h : T123 (orcE C) 0 0 0 0 y1 y2 y3 y4 = some r) : runE C 123 [V.sl y1 y2, V.sl y3 y4] = some r := ofR (F := fun s => T123 (orc C
 s.k) s.k s.m 0 0 y1 y2 y3 y4) (fun k => e123 k k 0 0 y1 y2 y3 y4) (by
  unfold T123
  repeat' first | with_reducible exact cC | exact cD0 gK) h

noncomputable def T170 (O : Orc) (k m q0 q1 : Nat) (y1 : Nat) (y2 : List V) (y3 : Nat) (y4 : List V) (y5 : Int) : Option V := need (O.R 0 59 [V.sl y1 y2, V.sl y3 y4, V.int .i64 y5]) fun x1 => asTup
 (some x1) fun x2 => asSl x2[0]? fun x3 x4 => O.L 0 170 0 [true, true, true, false, true] [] k [(0, V.sl y1 y2), (7, V.sl x3 x4), (8, V.ref 0), (9, V.int .i64 0)] [Ob.row 28 0 [] false]
theorem e170 (k m q0 q1 : Nat) (y1 : Nat) (y2 : List V) (y3 : Nat) (y4 : List V) (y5 : Int) : runV C (k + 1) 170 [V.sl y1 y2, V.sl y3 y4, V.int .i64 y5] = T170 (orc C k) k m q0 q1 y1 y2 y3 y4 y5 := by
 kernel_rfl
theorem E170 (y1 : Nat) (y2 : List V) (y3 : Nat) (y4 : List V) (y5 : Int) {r : V} (h : T170 (orcE C) 0 0 0 0 y1 y2 y3 y4 y5 = some r) : runE C 170 [V.sl y1 y2, V.sl y3 y4, V.int .i64 y5] = some r :=
 ofR (F := fun s => T170 (orc C s.k) s.k s.m 0 0 y1 y2 y3 y4 y5) (fun k => e170 k k 0 0 y1 y2 y3 y4 y5) (by
  unfold T170
  repeat' first | with_reducible exact cC | with_reducible refine cN cR fun _ => ?_ | with_reducible refine cT fun _ => ?_ | with_reducible refine cL fun _ _ => ?_ | with_reducible refine cN cC fun _ => ?_ | with_reducible exact cR | exact cD0 gK) h

noncomputable def T169 (O : Orc) (k m q0 q1 : Nat) (y1 : Nat) (y2 : List V) : Option V := must (inB (IntKind.i64.wrap ((↑y1 : Int) - 1)) y1) (asSl y2[(IntKind.i64.wrap ((↑y1 : Int) - 1)).toNat * 6]?
 fun x1 x2 => PI.asInt .i64 y2[(IntKind.i64.wrap ((↑y1 : Int) - 1)).toNat * 6 + 1]? fun x3 => PI.asInt .i64 y2[(IntKind.i64.wrap ((↑y1 : Int) - 1)).toNat * 6 + 1 + 1]? fun x4 => PI.asInt .i64
 y2[(IntKind.i64.wrap ((↑y1 : Int) - 1)).toNat * 6 + 1 + 1 + 1]? fun x5 => asSl y2[(IntKind.i64.wrap ((↑y1 : Int) - 1)).toNat * 6 + 1 + 1 + 1 + 1]? fun x6 x7 => PI.asInt .i64 y2[(IntKind.i64.wrap ((↑y1
 : Int) - 1)).toNat * 6 + 1 + 1 + 1 + 1 + 1]? fun x8 => bif decide ((↑y1 : Int) ≤ 4) then some (V.tup [V.int .i64 x5]) else bif x3.tmod 4 != 0 then some (V.tup [V.int .i64 x5]) else must (inB
 (IntKind.i64.wrap (IntKind.i64.wrap ((↑y1 : Int) - 1) - 4)) y1) (PI.asInt .i64 y2[(IntKind.i64.wrap (IntKind.i64.wrap ((↑y1 : Int) - 1) - 4)).toNat * 6 + 2]? fun x9 => bif decide (IntKind.i64.wrap (x4
 - x9) < 20) then need (O.R 0 207 [V.int .i64 40, V.int .i64 (IntKind.i64.wrap (x5 + 1))]) fun x10 => asTup (some x10) fun x11 => PI.asInt .i64 x11[0]? fun x12 => some (V.tup [V.int .i64 x12]) else bif
 decide (IntKind.i64.wrap (x4 - x9) > 80) then need (O.R 0 208 [V.int .i64 0, V.int .i64 (IntKind.i64.wrap (x5 - 1))]) fun x13 => asTup (some x13) fun x14 => PI.asInt .i64 x14[0]? fun x15 => some
 (V.tup [V.int .i64 x15]) else some (V.tup [V.int .i64 x5])))
theorem e169 (k m q0 q1 : Nat) (y1 : Nat) (y2 : List V) : runV C (k + 1) 169 [V.sl y1 y2] = T169 (orc C k) k m q0 q1 y1 y2 := by kernel_rfl
theorem E169 (y1 : Nat) (y2 : List V) {r : V} (h : T169 (orcE C) 0 0 0 0 y1 y2 = some r) : runE C 169 [V.sl y1 y2] = some r := ofR (F := fun s => T169 (orc C s.k) s.k s.m 0 0 y1 y2) (fun k => e169 k k
 0 0 y1 y2) (by
  unfold T169
  repeat' first | with_reducible exact cC | with_reducible refine cN cR fun _ => ?_ | with_reducible refine cT fun _ => ?_ | with_reducible refine cI fun _ => ?_ | with_reducible refine cM ?_ | with_reducible refine cF ?_ ?_ | with_reducible refine cL fun _ _ => ?_ | with_reducible refine cN cC fun _ => ?_ | with_reducible exact cR) h

noncomputable def T181 (O : Orc) (k m q0 q1 : Nat) (y1 : Nat) (y2 : List V) : Option V := O.L 0 181 0 [true, true, false, true] [] k [(0, V.sl y1 y2), (3, V.int .i64 0), (4, V.int .i64 0)] []
theorem e181 (k m q0 q1 : Nat) (y1 : Nat) (y2 : List V) : runV C (k + 1) 181 [V.sl y1 y2] = T181 (orc C k) k m q0 q1 y1 y2 := by kernel_rfl
theorem E181 (y1 : Nat) (y2 : List V) {r : V} (h : T181 (orcE C) 0 0 0 0 y1 y2 = some r) : runE C 181 [V.sl y1 y2] = some r := ofR (F := fun s => T181 (orc C s.k) s.k s.m 0 0 y1 y2) (fun k => e181 k k
 0 0 y1 y2) (by
  unfold T181
  repeat' first | with_reducible exact cC | exact cD0 gK) h

noncomputable def T60l1 (O : Orc) (k m q0 q1 : Nat) (y1 : Nat) (y2 : List V) (y3 : Int) (y4 : Int) : Option V := bif decide (y4 < (↑y1 : Int)) then must (inB y4 y1) (PI.asInt .i64 y2[y4.toNat * 1]? fun
 x1 => bif x1 == y3 then some (V.tup [V.bool true]) else O.L 0 60 0 [true, false, true] [] m [(0, V.sl y1 y2), (1, V.int .i64 y3), (5, V.int .i64 (IntKind.i64.wrap (y4 + 1)))] []) else some (V.tup
 [V.bool false])
theorem e60l1 (k m q0 q1 : Nat) (y1 : Nat) (y2 : List V) (y3 : Int) (y4 : Int) : runL C k 60 0 [true, false, true] [] (m + 1) [(0, V.sl y1 y2), (1, V.int .i64 y3), (5, V.int .i64 y4)] [] = T60l1 (orc C
 k) k m q0 q1 y1 y2 y3 y4 := by kernel_rfl
theorem E60l1 (y1 : Nat) (y2 : List V) (y3 : Int) (y4 : Int) {r : V} (h : T60l1 (orcE C) 0 0 0 0 y1 y2 y3 y4 = some r) : loopE C 60 0 [true, false, true] [] [(0, V.sl y1 y2), (1, V.int .i64 y3), (5,
 V.int .i64 y4)] [] = some r := ofL (j := 0) (F := fun s => T60l1 (orc C s.k) s.k s.m 0 0 y1 y2 y3 y4) (fs0 fun k m => e60l1 k m 0 0 y1 y2 y3 y4) (by
  unfold T60l1
  repeat' first | with_reducible exact cC | with_reducible refine cI fun _ => ?_ | with_reducible refine cM ?_ | with_reducible refine cF ?_ ?_ | exact cD0 gM) h

noncomputable def T52 (O : Orc) (k m q0 q1 : Nat) (y1 : Nat) (y2 : List V) (y3 : Int) (y4 : Int) (y5 : Int) (y6 : Nat) (y7 : List V) (y8 : Int) : Option V := need (O.R 0 115 [V.sl 2 [V.sl y1 y2, V.sl
 y6 y7]]) fun x1 => asTup (some x1) fun x2 => PI.asBool x2[0]? fun x3 => bif !x3 then some (V.tup [V.int .i64 1]) else need (O.R 0 47 [V.int .i64 y3, V.int .i64 0, V.int .i64 1000000]) fun x4 => asTup
 (some x4) fun x5 => PI.asBool x5[0]? fun x6 => bif !x6 then some (V.tup [V.int .i64 3]) else need (O.R 0 47 [V.int .i64 y4, V.int .i64 0, V.int .i64 1099511627776]) fun x7 => asTup (some x7) fun x8 =>
 PI.asBool x8[0]? fun x9 => bif !x9 then some (V.tup [V.int .i64 3]) else need (O.R 0 116 [V.int .i64 y5]) fun x10 => asTup (some x10) fun x11 => PI.asBool x11[0]? fun x12 => bif !x12 then some (V.tup
 [V.int .i64 3]) else need (O.R 0 47 [V.int .i64 y8, V.int .i64 0, V.int .i64 2199023255552]) fun x13 => asTup (some x13) fun x14 => PI.asBool x14[0]? fun x15 => bif !x15 then some (V.tup [V.int .i64
 3]) else some (V.tup [V.int .i64 0])
theorem e52 (k m q0 q1 : Nat) (y1 : Nat) (y2 : List V) (y3 : Int) (y4 : Int) (y5 : Int) (y6 : Nat) (y7 : List V) (y8 : Int) : runV C (k + 1) 52 [V.agg [V.sl y1 y2, V.int .i64 y3, V.int .i64 y4, V.int
 .i64 y5, V.sl y6 y7, V.int .i64 y8]] = T52 (orc C k) k m q0 q1 y1 y2 y3 y4 y5 y6 y7 y8 := by kernel_rfl
theorem E52 (y1 : Nat) (y2 : List V) (y3 : Int) (y4 : Int) (y5 : Int) (y6 : Nat) (y7 : List V) (y8 : Int) {r : V} (h : T52 (orcE C) 0 0 0 0 y1 y2 y3 y4 y5 y6 y7 y8 = some r) : runE C 52 [V.agg [V.sl y1
 y2, V.int .i64 y3, V.int .i64 y4, V.int .i64 y5, V.sl y6 y7, V.int .i64 y8]] = some r := ofR (F := fun s => T52 (orc C s.k) s.k s.m 0 0 y1 y2 y3 y4 y5 y6 y7 y8) (fun k => e52 k k 0 0 y1 y2 y3 y4 y5 y6
 y7 y8) (by
  unfold T52
  repeat' first | with_reducible exact cC | with_reducible refine cN cR fun _ => ?_ | with_reducible refine cT fun _ => ?_ | with_reducible refine cF ?_ ?_ | with_reducible refine cB fun _ => ?_ | with_reducible refine cN cC fun _ => ?_ | with_reducible exact cR) h

noncomputable def T108 (O : Orc) (k m q0 q1 : Nat) (y1 : Nat) (y2 : List V) (y3 : Int) (y4 : Int) (y5 : Int) (y6 : Nat) (y7 : List V) (y8 : Int) : Option V := need (O.R 0 53 [V.agg [V.sl y1 y2, V.int
 .i64 y3, V.int .i64 y4, V.int .i64 y5, V.sl y6 y7, V.int .i64 y8]]) fun x1 => asTup (some x1) fun x2 => asSl x2[0]? fun x3 x4 => need (O.R 0 173 [V.sl x3 x4]) fun x5 => asTup (some x5) fun x6 =>
 PI.asInt .i64 x6[0]? fun x7 => some (V.tup [V.bool (decide (x7 ≥ y5))])
theorem e108 (k m q0 q1 : Nat) (y1 : Nat) (y2 : List V) (y3 : Int) (y4 : Int) (y5 : Int) (y6 : Nat) (y7 : List V) (y8 : Int) : runV C (k + 1) 108 [V.agg [V.sl y1 y2, V.int .i64 y3, V.int .i64 y4, V.int
 .i64 y5, V.sl y6 y7, V.int .i64 y8]] = T108 (orc C k) k m q0 q1 y1 y2 y3 y4 y5 y6 y7 y8 := by kernel_rfl
theorem E108 (y1 : Nat) (y2 : List V) (y3 : Int) (y4 : Int) (y5 : Int) (y6 : Nat) (y7 : List V) (y8 : Int) {r : V} (h : T108 (orcE C) 0 0 0 0 y1 y2 y3 y4 y5 y6 y7 y8 = some r) : runE C 108 [V.agg [V.sl
 y1 y2, V.int .i64 y3, V.int .i64 y4, V.int .i64 y5, V.sl y6 y7, V.int .i64 y8]] = some r := ofR (F := fun s => T108 (orc C s.k) s.k s.m 0 0 y1 y2 y3 y4 y5 y6 y7 y8) (fun k => e108 k k 0 0 y1 y2 y3 y4
 y5 y6 y7 y8) (by
  unfold T108
  repeat' first | with_reducible exact cC | with_reducible refine cN cR fun _ => ?_ | with_reducible refine cT fun _ => ?_ | with_reducible refine cI fun _ => ?_ | with_reducible refine cL fun _ _ => ?_ | with_reducible refine cN cC fun _ => ?_ | with_reducible exact cR) h

noncomputable def T78 (O : Orc) (k m q0 q1 : Nat) (y1 : Nat) (y2 : List V) (y3 : Nat) (y4 : List V) : Option V := must (y2.length.beq y1 && y2.all isU8) (must (y4.length.beq y3 && y4.all isU8) (some
 (V.tup [V.bool (strEq (packB y2) (packB y4))])))
theorem e78 (k m q0 q1 : Nat) (y1 : Nat) (y2 : List V) (y3 : Nat) (y4 : List V) : runV C (k + 1) 78 [V.sl y1 y2, V.sl y3 y4] = T78 (orc C k) k m q0 q1 y1 y2 y3 y4 := by kernel_rfl
theorem E78 (y1 : Nat) (y2 : List V) (y3 : Nat) (y4 : List V) {r : V} (h : T78 (orcE C) 0 0 0 0 y1 y2 y3 y4 = some r) : runE C 78 [V.sl y1 y2, V.sl y3 y4] = some r := ofR (F := fun s => T78 (orc C s.k)
 s.k s.m 0 0 y1 y2 y3 y4) (fun k => e78 k k 0 0 y1 y2 y3 y4) (by
  unfold T78
  repeat' first | with_reducible exact cC | with_reducible refine cM ?_) h

noncomputable def T53 (O : Orc) (k m q0 q1 : Nat) (y1 : Nat) (y2 : List V) (y3 : Int) (y4 : Int) (y5 : Int) (y6 : Nat) (y7 : List V) (y8 : Int) : Option V := need (O.R 0 119 [V.agg [V.sl y1 y2, V.int
 .i64 y3, V.int .i64 y4, V.int .i64 y5, V.sl y6 y7, V.int .i64 y8]]) fun x1 => asTup (some x1) fun x2 => asSl x2[0]? fun x3 x4 => need (O.R 0 118 [V.sl x3 x4]) fun x5 => asTup (some x5) fun x6 => asSl
 x6[0]? fun x7 x8 => need (O.R 0 120 [V.int .i64 y8]) fun x9 => asTup (some x9) fun x10 => asSl x10[0]? fun x11 x12 => need (O.R 0 117 [V.sl 2 [V.sl x7 x8, V.sl x11 x12]]) fun x13 => asTup (some x13)
 fun x14 => asSl x14[0]? fun x15 x16 => some (V.tup [V.sl x15 x16])
theorem e53 (k m q0 q1 : Nat) (y1 : Nat) (y2 : List V) (y3 : Int) (y4 : Int) (y5 : Int) (y6 : Nat) (y7 : List V) (y8 : Int) : runV C (k + 1) 53 [V.agg [V.sl y1 y2, V.int .i64 y3, V.int .i64 y4, V.int
 .i64 y5, V.sl y6 y7, V.int .i64 y8]] = T53 (orc C k) k m q0 q1 y1 y2 y3 y4 y5 y6 y7 y8 := by kernel_rfl
theorem E53 (y1 : Nat) (y2 : List V) (y3 : Int) (y4 : Int) (y5 : Int) (y6 : Nat) (y7 : List V) (y8 : Int) {r : V} (h : T53 (orcE C) 0 0 0 0 y1 y2 y3 y4 y5 y6 y7 y8 = some r) : runE C 53 [V.agg [V.sl y1
 y2, V.int .i64 y3, V.int .i64 y4, V.int .i64 y5, V.sl y6 y7, V.int .i64 y8]] = some r := ofR (F := fun s => T53 (orc C s.k) s.k s.m 0 0 y1 y2 y3 y4 y5 y6 y7 y8) (fun k => e53 k k 0 0 y1 y2 y3 y4 y5 y6
 y7 y8) (by
  unfold T53
  repeat' first | with_reducible exact cC | with_reducible refine cN cR fun _ => ?_ | with_reducible refine cT fun _ => ?_ | with_reducible refine cL fun _ _ => ?_ | with_reducible refine cN cC fun _ => ?_ | with_reducible exact cR) h

noncomputable def T174 (O : Orc) (k m q0 q1 : Nat) (y1 : Nat) (y2 : List V) (y3 : Nat) (y4 : List V) : Option V := O.L 0 174 0 [true, false, true] [] k [(0, V.sl y1 y2), (1, V.fn 110 [V.pin [V.sl y3
 y4] 0]), (7, V.int .i64 (↑y1 : Int)), (8, V.int .i64 0)] []
theorem e174 (k m q0 q1 : Nat) (y1 : Nat) (y2 : List V) (y3 : Nat) (y4 : List V) : runV C (k + 1) 174 [V.sl y1 y2, V.fn 110 [V.pin [V.sl y3 y4] 0]] = T174 (orc C k) k m q0 q1 y1 y2 y3 y4 := by
 kernel_rfl
theorem E174 (y1 : Nat) (y2 : List V) (y3 : Nat) (y4 : List V) {r : V} (h : T174 (orcE C) 0 0 0 0 y1 y2 y3 y4 = some r) : runE C 174 [V.sl y1 y2, V.fn 110 [V.pin [V.sl y3 y4] 0]] = some r := ofR (F :=
 fun s => T174 (orc C s.k) s.k s.m 0 0 y1 y2 y3 y4) (fun k => e174 k k 0 0 y1 y2 y3 y4) (by
  unfold T174
  repeat' first | with_reducible exact cC | exact cD0 gK) h

noncomputable def T111 (O : Orc) (k m q0 q1 : Nat) (y1 : Nat) (y2 : List V) (y3 : Nat) (y4 : List V) (y5 : Int) (y6 : Int) (y7 : Int) (y8 : Nat) (y9 : List V) (y10 : Int) : Option V := need (O.R 0 174
 [V.sl y1 y2, V.fn 175 [V.pin [V.sl y3 y4, V.int .i64 y5, V.int .i64 y6, V.int .i64 y7, V.sl y8 y9, V.int .i64 y10] 0]]) fun x1 => asTup (some x1) fun x2 => PI.asInt .i64 x2[0]? fun x3 => some (V.tup
 [V.int .i64 x3])
theorem e111 (k m q0 q1 : Nat) (y1 : Nat) (y2 : List V) (y3 : Nat) (y4 : List V) (y5 : Int) (y6 : Int) (y7 : Int) (y8 : Nat) (y9 : List V) (y10 : Int) : runV C (k + 1) 111 [V.sl y1 y2, V.agg [V.sl y3
 y4, V.int .i64 y5, V.int .i64 y6, V.int .i64 y7, V.sl y8 y9, V.int .i64 y10]] = T111 (orc C k) k m q0 q1 y1 y2 y3 y4 y5 y6 y7 y8 y9 y10 := by kernel_rfl
theorem E111 (y1 : Nat) (y2 : List V) (y3 : Nat) (y4 : List V) (y5 : Int) (y6 : Int) (y7 : Int) (y8 : Nat) (y9 : List V) (y10 : Int) {r : V} (h : T111 (orcE C) 0 0 0 0 y1 y2 y3 y4 y5 y6 y7 y8 y9 y10 =
 some r) : runE C 111 [V.sl y1 y2, V.agg [V.sl y3 y4, V.int .i64 y5, V.int .i64 y6, V.int .i64 y7, V.sl y8 y9, V.int .i64 y10]] = some r := ofR (F := fun s => T111 (orc C s.k) s.k s.m 0 0 y1 y2 y3 y4
 y5 y6 y7 y8 y9 y10) (fun k => e111 k k 0 0 y1 y2 y3 y4 y5 y6 y7 y8 y9 y10) (by
  unfold T111
  repeat' first | with_reducible exact cC | with_reducible refine cN cR fun _ => ?_ | with_reducible refine cT fun _ => ?_ | with_reducible refine cI fun _ => ?_ | with_reducible refine cN cC fun _ => ?_ | with_reducible exact cR) h

noncomputable def T106 (O : Orc) (k m q0 q1 : Nat) (y1 : Nat) (y2 : List V) (y3 : Nat) (y4 : List V) : Option V := O.L 0 106 0 [true, true, false, true] [] k [(0, V.sl y1 y2), (5, V.ref 0), (9, V.sl y3
 y4), (10, V.int .i64 (↑y3 : Int)), (11, V.int .i64 0)] [Ob.row 28 0 [] false]
theorem e106 (k m q0 q1 : Nat) (y1 : Nat) (y2 : List V) (y3 : Nat) (y4 : List V) : runV C (k + 1) 106 [V.sl y1 y2, V.sl y3 y4] = T106 (orc C k) k m q0 q1 y1 y2 y3 y4 := by kernel_rfl
theorem E106 (y1 : Nat) (y2 : List V) (y3 : Nat) (y4 : List V) {r : V} (h : T106 (orcE C) 0 0 0 0 y1 y2 y3 y4 = some r) : runE C 106 [V.sl y1 y2, V.sl y3 y4] = some r := ofR (F := fun s => T106 (orc C
 s.k) s.k s.m 0 0 y1 y2 y3 y4) (fun k => e106 k k 0 0 y1 y2 y3 y4) (by
  unfold T106
  repeat' first | with_reducible exact cC | exact cD0 gK) h

noncomputable def T112 (O : Orc) (k m q0 q1 : Nat) (y1 : Nat) (y2 : List V) : Option V := must (inB (IntKind.i64.wrap ((↑y1 : Int) - 1)) y1) (asSl y2[(IntKind.i64.wrap ((↑y1 : Int) - 1)).toNat * 6]?
 fun x1 x2 => PI.asInt .i64 y2[(IntKind.i64.wrap ((↑y1 : Int) - 1)).toNat * 6 + 1]? fun x3 => PI.asInt .i64 y2[(IntKind.i64.wrap ((↑y1 : Int) - 1)).toNat * 6 + 1 + 1]? fun x4 => PI.asInt .i64
 y2[(IntKind.i64.wrap ((↑y1 : Int) - 1)).toNat * 6 + 1 + 1 + 1]? fun x5 => asSl y2[(IntKind.i64.wrap ((↑y1 : Int) - 1)).toNat * 6 + 1 + 1 + 1 + 1]? fun x6 x7 => PI.asInt .i64 y2[(IntKind.i64.wrap ((↑y1
 : Int) - 1)).toNat * 6 + 1 + 1 + 1 + 1 + 1]? fun x8 => bif decide ((↑y1 : Int) ≤ 4) then some (V.tup [V.int .i64 x5]) else bif x3.tmod 4 != 0 then some (V.tup [V.int .i64 x5]) else must (inB
 (IntKind.i64.wrap (IntKind.i64.wrap ((↑y1 : Int) - 1) - 4)) y1) (PI.asInt .i64 y2[(IntKind.i64.wrap (IntKind.i64.wrap ((↑y1 : Int) - 1) - 4)).toNat * 6 + 2]? fun x9 => bif decide (IntKind.i64.wrap (x4
 - x9) < 20) then some (V.tup [V.int .i64 (if 40 < IntKind.i64.wrap (x5 + 1) then 40 else IntKind.i64.wrap (x5 + 1))]) else bif decide (IntKind.i64.wrap (x4 - x9) > 80) then some (V.tup [V.int .i64 (if
 0 > IntKind.i64.wrap (x5 - 1) then 0 else IntKind.i64.wrap (x5 - 1))]) else some (V.tup [V.int .i64 x5])))
theorem e112 (k m q0 q1 : Nat) (y1 : Nat) (y2 : List V) : runV C (k + 1) 112 [V.sl y1 y2] = T112 (orc C k) k m q0 q1 y1 y2 := by kernel_rfl
theorem E112 (y1 : Nat) (y2 : List V) {r : V} (h : T112 (orcE C) 0 0 0 0 y1 y2 = some r) : runE C 112 [V.sl y1 y2] = some r := ofR (F := fun s => T112 (orc C s.k) s.k s.m 0 0 y1 y2) (fun k => e112 k k
 0 0 y1 y2) (by
  unfold T112
  repeat' first | with_reducible exact cC | with_reducible refine cI fun _ => ?_ | with_reducible refine cM ?_ | with_reducible refine cF ?_ ?_ | with_reducible refine cL fun _ _ => ?_) h

noncomputable def T46l1 (O : Orc) (k m q0 q1 : Nat) (y1 : Nat) (y2 : List V) (y3 : Int) (y4 : Int) (y5 : Int) (y6 : Int) : Option V := bif decide (y6 < y5) then need (O.R 0 107 [V.sl y1 y2, V.int .i64
 y6]) fun x1 => asTup (some x1) fun x2 => asOsl x2[0]? fun x3 x4 => need (O.R 0 106 [V.sl y1 y2, V.sl x3 x4]) fun x5 => asTup (some x5) fun x6 => asSl x6[0]? fun x7 x8 => O.L 0 46 2 [true, true, false,
 true, false, true, true, false, false, true, true, false, true] [m] k [(0, V.sl y1 y2), (3, V.int .i64 y3), (4, V.int .i64 y4), (5, V.int .i64 y6), (6, V.int .i64 0), (10, V.int .i64 y5), (11, V.int
 .i64 y6), (18, V.sl x7 x8), (19, V.int .i64 (↑x7 : Int)), (20, V.int .i64 0)] [] else some (V.tup [V.int .i64 y3])
theorem e46l1 (k m q0 q1 : Nat) (y1 : Nat) (y2 : List V) (y3 : Int) (y4 : Int) (y5 : Int) (y6 : Int) : runL C k 46 0 [true, true, false, true] [] (m + 1) [(0, V.sl y1 y2), (3, V.int .i64 y3), (4, V.int
 .i64 y4), (10, V.int .i64 y5), (11, V.int .i64 y6)] [] = T46l1 (orc C k) k m q0 q1 y1 y2 y3 y4 y5 y6 := by kernel_rfl
theorem E46l1 (y1 : Nat) (y2 : List V) (y3 : Int) (y4 : Int) (y5 : Int) (y6 : Int) {r : V} (h : T46l1 (orcE C) 0 0 0 0 y1 y2 y3 y4 y5 y6 = some r) : loopE C 46 0 [true, true, false, true] [] [(0, V.sl
 y1 y2), (3, V.int .i64 y3), (4, V.int .i64 y4), (10, V.int .i64 y5), (11, V.int .i64 y6)] [] = some r := ofL (j := 0) (F := fun s => T46l1 (orc C s.k) s.k s.m 0 0 y1 y2 y3 y4 y5 y6) (fs0 fun k m =>
 e46l1 k m 0 0 y1 y2 y3 y4 y5 y6) (by
  unfold T46l1
  repeat' first | with_reducible exact cC | with_reducible refine cN cR fun _ => ?_ | with_reducible refine cT fun _ => ?_ | with_reducible refine cF ?_ ?_ | with_reducible refine cL fun _ _ => ?_ | with_reducible refine cO fun _ _ => ?_ | with_reducible refine cN cC fun _ => ?_ | with_reducible exact cR | exact cD1 gK gM) h

noncomputable def T107l1 (O : Orc) (k m q0 q1 : Nat) (y1 : Nat) (y2 : List V) (y3 : Int) (y4 : Nat) (y5 : List V) : Option V := must (true && (y4 + 1).ble 140737488355328 && ((y4 + 1) * 8).ble
 140737488355328) (bif y3 == 0 then need (O.W 0 172 [0] [V.ref 0] [Ob.row 2 (y4 + 1) (y5 ++ [V.int .i64 y3]) false]) fun x1 => asTup (some x1) fun x2 => asOsl x2[0]? fun x3 x4 => must (false || x4.all
 flatV) (some (V.tup [V.osl x3 x4])) else must (decide (0 ≤ y3) && decide (y3 ≤ (↑y1 : Int))) (must (inB y3 y1) (asSl y2[y3.toNat * 6]? fun x5 x6 => PI.asInt .i64 y2[y3.toNat * 6 + 1]? fun x7 =>
 PI.asInt .i64 y2[y3.toNat * 6 + 1 + 1]? fun x8 => PI.asInt .i64 y2[y3.toNat * 6 + 1 + 1 + 1]? fun x9 => asSl y2[y3.toNat * 6 + 1 + 1 + 1 + 1]? fun x10 x11 => PI.asInt .i64 y2[y3.toNat * 6 + 1 + 1 + 1
 + 1 + 1]? fun x12 => need (O.R 0 111 [V.sl (y3.toNat - 0) (List.take ((y3.toNat - 0) * 6) (List.drop 0 y2)), V.agg [V.sl x5 x6, V.int .i64 x7, V.int .i64 x8, V.int .i64 x9, V.sl x10 x11, V.int .i64
 x12]]) fun x13 => asTup (some x13) fun x14 => PI.asInt .i64 x14[0]? fun x15 => O.L 0 107 0 [true, true] [] m [(0, V.sl y1 y2), (1, V.int .i64 x15), (5, V.ref 0)] [Ob.row 2 (y4 + 1) (y5 ++ [V.int .i64
 y3]) false])))
theorem e107l1 (k m q0 q1 : Nat) (y1 : Nat) (y2 : List V) (y3 : Int) (y4 : Nat) (y5 : List V) : runL C k 107 0 [true, true] [] (m + 1) [(0, V.sl y1 y2), (1, V.int .i64 y3), (5, V.ref 0)] [Ob.row 2 y4
 y5 false] = T107l1 (orc C k) k m q0 q1 y1 y2 y3 y4 y5 := by kernel_rfl
theorem E107l1 (y1 : Nat) (y2 : List V) (y3 : Int) (y4 : Nat) (y5 : List V) {r : V} (h : T107l1 (orcE C) 0 0 0 0 y1 y2 y3 y4 y5 = some r) : loopE C 107 0 [true, true] [] [(0, V.sl y1 y2), (1, V.int
 .i64 y3), (5, V.ref 0)] [Ob.row 2 y4 y5 false] = some r := ofL (j := 0) (F := fun s => T107l1 (orc C s.k) s.k s.m 0 0 y1 y2 y3 y4 y5) (fs0 fun k m => e107l1 k m 0 0 y1 y2 y3 y4 y5) (by
  unfold T107l1
  repeat' first | with_reducible exact cC | with_reducible refine cN cR fun _ => ?_ | with_reducible refine cN cQ fun _ => ?_ | with_reducible refine cT fun _ => ?_ | with_reducible refine cI fun _ => ?_ | with_reducible refine cM ?_ | with_reducible refine cF ?_ ?_ | with_reducible refine cL fun _ _ => ?_ | with_reducible refine cO fun _ _ => ?_ | with_reducible refine cN cC fun _ => ?_ | with_reducible exact cR | with_reducible exact cQ | exact cD0 gM) h

noncomputable def T171 (O : Orc) (k m q0 q1 : Nat) (y1 : Nat) (y2 : List V) (y3 : Nat) (y4 : List V) (y5 : Int) (y6 : Nat) (y7 : List V) (y8 : Int) (y9 : Int) (y10 : Int) (y11 : Nat) (y12 : List V)
 (y13 : Int) : Option V := O.L 0 171 0 [true, false, true] [] k [(0, V.sl y1 y2), (1, V.fn 105 [V.pin [V.sl y3 y4, V.int .i64 y5] 0, V.pin [V.sl y6 y7, V.int .i64 y8, V.int .i64 y9, V.int .i64 y10,
 V.sl y11 y12, V.int .i64 y13] 0]), (7, V.int .i64 (↑y1 : Int)), (8, V.int .i64 0)] []
theorem e171 (k m q0 q1 : Nat) (y1 : Nat) (y2 : List V) (y3 : Nat) (y4 : List V) (y5 : Int) (y6 : Nat) (y7 : List V) (y8 : Int) (y9 : Int) (y10 : Int) (y11 : Nat) (y12 : List V) (y13 : Int) : runV C (k
 + 1) 171 [V.sl y1 y2, V.fn 105 [V.pin [V.sl y3 y4, V.int .i64 y5] 0, V.pin [V.sl y6 y7, V.int .i64 y8, V.int .i64 y9, V.int .i64 y10, V.sl y11 y12, V.int .i64 y13] 0]] = T171 (orc C k) k m q0 q1 y1 y2
 y3 y4 y5 y6 y7 y8 y9 y10 y11 y12 y13 := by kernel_rfl
theorem E171 (y1 : Nat) (y2 : List V) (y3 : Nat) (y4 : List V) (y5 : Int) (y6 : Nat) (y7 : List V) (y8 : Int) (y9 : Int) (y10 : Int) (y11 : Nat) (y12 : List V) (y13 : Int) {r : V} (h : T171 (orcE C) 0
 0 0 0 y1 y2 y3 y4 y5 y6 y7 y8 y9 y10 y11 y12 y13 = some r) : runE C 171 [V.sl y1 y2, V.fn 105 [V.pin [V.sl y3 y4, V.int .i64 y5] 0, V.pin [V.sl y6 y7, V.int .i64 y8, V.int .i64 y9, V.int .i64 y10,
 V.sl y11 y12, V.int .i64 y13] 0]] = some r := ofR (F := fun s => T171 (orc C s.k) s.k s.m 0 0 y1 y2 y3 y4 y5 y6 y7 y8 y9 y10 y11 y12 y13) (fun k => e171 k k 0 0 y1 y2 y3 y4 y5 y6 y7 y8 y9 y10 y11 y12
 y13) (by
  unfold T171
  repeat' first | with_reducible exact cC | exact cD0 gK) h

noncomputable def T104l1 (O : Orc) (k m q0 q1 : Nat) (y1 : Int) (y2 : Int) (y3 : Nat) (y4 : List V) (y5 : Nat) (y6 : List V) (y7 : Int) (y8 : Nat) (y9 : List V) (y10 : Int) (y11 : Int) (y12 : Int) (y13
 : Nat) (y14 : List V) (y15 : Int) : Option V := bif decide (y2 < (↑y3 : Int)) then must (inB y2 y3) (PI.asInt .i64 y4[y2.toNat * 1]? fun x1 => need (O.W 0 105 [] [V.int .i64 x1, V.ptr 0 0, V.ptr 1 0]
 [Ob.box 26 [V.sl y5 y6, V.int .i64 y7] false, Ob.box 28 [V.sl y8 y9, V.int .i64 y10, V.int .i64 y11, V.int .i64 y12, V.sl y13 y14, V.int .i64 y15] false]) fun x2 => asTup (some x2) fun x3 => PI.asBool
 x3[0]? fun x4 => asSl x3[1]? fun x5 x6 => PI.asInt .i64 x3[2]? fun x7 => asSl x3[3]? fun x8 x9 => PI.asInt .i64 x3[4]? fun x10 => PI.asInt .i64 x3[5]? fun x11 => PI.asInt .i64 x3[6]? fun x12 => asSl
 x3[7]? fun x13 x14 => PI.asInt .i64 x3[8]? fun x15 => bif !x4 then must (inB y1 y3) (must ([V.int .i64 x1].length.beq 1 && (y1.toNat * 1 + [V.int .i64 x1].length).ble y4.length) (O.X 0 104 [] [Ob.row
 2 0 [] false, Ob.box 26 [V.u, V.u] false, Ob.box 28 [V.u, V.u, V.u, V.u, V.u, V.u] false] 0 [true, true, true, false, true] [] m [(0, V.ref 0), (1, V.fn 105 [V.ptr 1 0, V.ptr 2 0]), (5, V.int .i64
 (IntKind.i64.wrap (y1 + 1))), (6, V.int .i64 (IntKind.i64.wrap (y2 + 1)))] [Ob.row 2 y3 (splice y4 (y1.toNat * 1) [V.int .i64 x1]) false, Ob.box 26 [V.sl x5 x6, V.int .i64 x7] false, Ob.box 28 [V.sl
 x8 x9, V.int .i64 x10, V.int .i64 x11, V.int .i64 x12, V.sl x13 x14, V.int .i64 x15] false])) else O.X 0 104 [] [Ob.row 2 0 [] false, Ob.box 26 [V.u, V.u] false, Ob.box 28 [V.u, V.u, V.u, V.u, V.u,
 V.u] false] 0 [true, true, true, false, true] [] m [(0, V.ref 0), (1, V.fn 105 [V.ptr 1 0, V.ptr 2 0]), (5, V.int .i64 y1), (6, V.int .i64 (IntKind.i64.wrap (y2 + 1)))] [Ob.row 2 y3 y4 false, Ob.box
 26 [V.sl x5 x6, V.int .i64 x7] false, Ob.box 28 [V.sl x8 x9, V.int .i64 x10, V.int .i64 x11, V.int .i64 x12, V.sl x13 x14, V.int .i64 x15] false]) else must (decide (0 ≤ y1) && decide (y1 ≤ (↑y3 :
 Int))) (must (decide (0 ≤ y1) && decide (y1 ≤ (↑y3 : Int))) (some (V.tup [V.sl (y1.toNat - 0) (List.take ((y1.toNat - 0) * 1) (List.drop 0 (splice y4 (y1.toNat * 1) (reps (y3 - y1.toNat) [V.int .i64
 0])))), V.sl y5 y6, V.int .i64 y7, V.sl y8 y9, V.int .i64 y10, V.int .i64 y11, V.int .i64 y12, V.sl y13 y14, V.int .i64 y15])))
theorem e104l1 (k m q0 q1 : Nat) (y1 : Int) (y2 : Int) (y3 : Nat) (y4 : List V) (y5 : Nat) (y6 : List V) (y7 : Int) (y8 : Nat) (y9 : List V) (y10 : Int) (y11 : Int) (y12 : Int) (y13 : Nat) (y14 : List
 V) (y15 : Int) : runLW C k 104 [] [Ob.row 2 0 [] false, Ob.box 26 [V.u, V.u] false, Ob.box 28 [V.u, V.u, V.u, V.u, V.u, V.u] false] 0 [true, true, true, false, true] [] (m + 1) [(0, V.ref 0), (1, V.fn
 105 [V.ptr 1 0, V.ptr 2 0]), (5, V.int .i64 y1), (6, V.int .i64 y2)] [Ob.row 2 y3 y4 false, Ob.box 26 [V.sl y5 y6, V.int .i64 y7] false, Ob.box 28 [V.sl y8 y9, V.int .i64 y10, V.int .i64 y11, V.int
 .i64 y12, V.sl y13 y14, V.int .i64 y15] false] = T104l1 (orc C k) k m q0 q1 y1 y2 y3 y4 y5 y6 y7 y8 y9 y10 y11 y12 y13 y14 y15 := by kernel_rfl
theorem E104l1 (y1 : Int) (y2 : Int) (y3 : Nat) (y4 : List V) (y5 : Nat) (y6 : List V) (y7 : Int) (y8 : Nat) (y9 : List V) (y10 : Int) (y11 : Int) (y12 : Int) (y13 : Nat) (y14 : List V) (y15 : Int) {r
 : V} (h : T104l1 (orcE C) 0 0 0 0 y1 y2 y3 y4 y5 y6 y7 y8 y9 y10 y11 y12 y13 y14 y15 = some r) : loopWE C 104 [] [Ob.row 2 0 [] false, Ob.box 26 [V.u, V.u] false, Ob.box 28 [V.u, V.u, V.u, V.u, V.u,
 V.u] false] 0 [true, true, true, false, true] [] [(0, V.ref 0), (1, V.fn 105 [V.ptr 1 0, V.ptr 2 0]), (5, V.int .i64 y1), (6, V.int .i64 y2)] [Ob.row 2 y3 y4 false, Ob.box 26 [V.sl y5 y6, V.int .i64
 y7] false, Ob.box 28 [V.sl y8 y9, V.int .i64 y10, V.int .i64 y11, V.int .i64 y12, V.sl y13 y14, V.int .i64 y15] false] = some r := ofX (j := 0) (F := fun s => T104l1 (orc C s.k) s.k s.m 0 0 y1 y2 y3
 y4 y5 y6 y7 y8 y9 y10 y11 y12 y13 y14 y15) (fs0 fun k m => e104l1 k m 0 0 y1 y2 y3 y4 y5 y6 y7 y8 y9 y10 y11 y12 y13 y14 y15) (by
  unfold T104l1
  repeat' first | with_reducible exact cC | with_reducible refine cN cQ fun _ => ?_ | with_reducible refine cT fun _ => ?_ | with_reducible refine cI fun _ => ?_ | with_reducible refine cM ?_ | with_reducible refine cF ?_ ?_ | with_reducible refine cB fun _ => ?_ | with_reducible refine cL fun _ _ => ?_ | with_reducible refine cN cC fun _ => ?_ | with_reducible exact cQ | exact cX0 gM) h

end Go.Proofs.YtehpmolckdmibaaGreat.EqP

