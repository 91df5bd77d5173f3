/-
  The functions of a table, as the interpreter tells them. Printed by a program.
-/
import Derived.Test.YtkjjneejmjfhlaaDoorPITabD
import Derived.Test.YtkjjneejmjfhlaaDoorPIPlain
import Derived.KernelRfl
namespace Go.Proofs.YtkjjneejmjfhlaaDoor.EqD
open Go Go.PI
set_option maxRecDepth 100000
set_option maxHeartbeats 4000000
set_option linter.unusedVariables false
set_option linter.unusedSimpArgs false
noncomputable abbrev C := tabD.cfg

noncomputable def T3 (O : Orc) (k m q0 q1 : Nat) (y1 : Nat) (y2 : List V) : Option V := need (O.R 0 7 [V.sl y1 y2]) fun x1 => asTup (some x1) fun x2 => PI.asBool x2[0]? fun x3 => bif x3 then some
 (V.tup [V.bool true]) else need (O.R 0 8 [V.sl y1 y2]) fun x4 => asTup (some x4) fun x5 => PI.asInt .i64 x5[0]? fun x6 => PI.asInt .i64 x5[1]? fun x7 => PI.asInt .i64 x5[2]? fun x8 => PI.asInt .i64
 x5[3]? fun x9 => asSl x5[4]? fun x10 x11 => PI.asInt .i64 x5[5]? fun x12 => PI.asBool x5[6]? fun x13 => PI.asInt .i64 x5[7]? fun x14 => asStr x5[8]? fun x15 => need (O.R 0 9 [V.agg [V.int .i64 x6,
 V.int .i64 x7, V.int .i64 x8, V.int .i64 x9, V.sl x10 x11, V.int .i64 x12, V.bool x13], V.int .i64 x14, V.str x15]) fun x16 => asTup (some x16) fun x17 => PI.asInt .i64 x17[0]? fun x18 => PI.asInt
 .i64 x17[1]? fun x19 => PI.asInt .i64 x17[2]? fun x20 => PI.asInt .i64 x17[3]? fun x21 => PI.asInt .i64 x17[4]? fun x22 => asOsl x17[5]? fun x23 x24 => PI.asInt .i64 x17[6]? fun x25 => PI.asBool
 x17[7]? fun x26 => PI.asInt .i64 x17[8]? fun x27 => PI.asInt .i64 x17[9]? fun x28 => PI.asInt .i64 x17[10]? fun x29 => asStr x17[11]? fun x30 => bif x18 != 0 then need (O.R 0 10 [V.agg [V.int .i64 x6,
 V.int .i64 x7, V.int .i64 x8, V.int .i64 x9, V.sl x10 x11, V.int .i64 x12, V.bool x13], V.int .i64 x14, V.str x15]) fun x31 => asTup (some x31) fun x32 => PI.asInt .i64 x32[0]? fun x33 => PI.asInt
 .i64 x32[1]? fun x34 => PI.asInt .i64 x32[2]? fun x35 => PI.asInt .i64 x32[3]? fun x36 => PI.asInt .i64 x32[4]? fun x37 => asSl x32[5]? fun x38 x39 => PI.asInt .i64 x32[6]? fun x40 => PI.asBool
 x32[7]? fun x41 => PI.asInt .i64 x32[8]? fun x42 => PI.asInt .i64 x32[9]? fun x43 => PI.asInt .i64 x32[10]? fun x44 => asStr x32[11]? fun x45 => some (V.tup [V.bool (x33 == x18)]) else bif x6 == 2
 then need (O.R 0 11 [V.agg [V.int .i64 x19, V.int .i64 x20, V.int .i64 x21, V.int .i64 x22, V.sl x23 x24, V.int .i64 x25, V.bool x26]]) fun x46 => asTup (some x46) fun x47 => PI.asInt .i64 x47[0]? fun
 x48 => PI.asInt .i64 x47[1]? fun x49 => need (O.R 0 12 [V.agg [V.int .i64 x19, V.int .i64 x20, V.int .i64 x21, V.int .i64 x22, V.sl x23 x24, V.int .i64 x25, V.bool x26]]) fun x50 => asTup (some x50)
 fun x51 => PI.asInt .i64 x51[0]? fun x52 => bif x52 == 0 then bif x48 == 0 then need (O.R 0 11 [V.agg [V.int .i64 x6, V.int .i64 x7, V.int .i64 x8, V.int .i64 x9, V.sl x10 x11, V.int .i64 x12, V.bool
 x13]]) fun x53 => asTup (some x53) fun x54 => PI.asInt .i64 x54[0]? fun x55 => PI.asInt .i64 x54[1]? fun x56 => bif x49 == IntKind.i64.wrap (x56 + IntKind.i64.wrap (0 - x14)) then bif decide (x49 ≤
 x12) then bif x28 == x9 then bif x29 == x14 then bif x22 == IntKind.i64.wrap (x9 + 1) then some (V.tup [V.bool (x21 == x8)]) else some (V.tup [V.bool false]) else some (V.tup [V.bool false]) else some
 (V.tup [V.bool false]) else some (V.tup [V.bool false]) else some (V.tup [V.bool false]) else some (V.tup [V.bool false]) else some (V.tup [V.bool false]) else need (O.R 0 11 [V.agg [V.int .i64 x19,
 V.int .i64 x20, V.int .i64 x21, V.int .i64 x22, V.sl x23 x24, V.int .i64 x25, V.bool x26]]) fun x57 => asTup (some x57) fun x58 => PI.asInt .i64 x58[0]? fun x59 => PI.asInt .i64 x58[1]? fun x60 =>
 need (O.R 0 12 [V.agg [V.int .i64 x19, V.int .i64 x20, V.int .i64 x21, V.int .i64 x22, V.sl x23 x24, V.int .i64 x25, V.bool x26]]) fun x61 => asTup (some x61) fun x62 => PI.asInt .i64 x62[0]? fun x63
 => bif x63 == 0 then bif x59 == 0 then need (O.R 0 11 [V.agg [V.int .i64 x6, V.int .i64 x7, V.int .i64 x8, V.int .i64 x9, V.sl x10 x11, V.int .i64 x12, V.bool x13]]) fun x64 => asTup (some x64) fun
 x65 => PI.asInt .i64 x65[0]? fun x66 => PI.asInt .i64 x65[1]? fun x67 => bif x60 == IntKind.i64.wrap (x67 + x14) then bif decide (x60 ≤ x12) then bif x28 == x9 then bif x29 == x14 then bif x22 ==
 IntKind.i64.wrap (x9 + 1) then some (V.tup [V.bool (x21 == x8)]) else some (V.tup [V.bool false]) else some (V.tup [V.bool false]) else some (V.tup [V.bool false]) else some (V.tup [V.bool false])
 else some (V.tup [V.bool false]) else some (V.tup [V.bool false]) else some (V.tup [V.bool false])
theorem e3 (k m q0 q1 : Nat) (y1 : Nat) (y2 : List V) : runV C (k + 1) 3 [V.sl y1 y2] = T3 (orc C k) k m q0 q1 y1 y2 := by kernel_rfl
theorem E3 (y1 : Nat) (y2 : List V) {r : V} (h : T3 (orcE C) 0 0 0 0 y1 y2 = some r) : runE C 3 [V.sl y1 y2] = some r := ofR (F := fun s => T3 (orc C s.k) s.k s.m 0 0 y1 y2) (fun k => e3 k k 0 0 y1 y2)
 (by
  unfold T3
  repeat' first | with_reducible exact cC | with_reducible refine cN cR fun _ => ?_ | with_reducible refine cT fun _ => ?_ | with_reducible refine cI fun _ => ?_ | with_reducible refine cF ?_ ?_ | with_reducible refine cB fun _ => ?_ | with_reducible refine cS fun _ => ?_ | with_reducible refine cL fun _ _ => ?_ | with_reducible refine cO fun _ _ => ?_ | with_reducible refine cN cC fun _ => ?_ | with_reducible exact cR) h

noncomputable def T7 (O : Orc) (k m q0 q1 : Nat) (y1 : Nat) (y2 : List V) : Option V := some (V.tup [V.bool (decide ((↑y1 : Int) > 1048576))])
theorem e7 (k m q0 q1 : Nat) (y1 : Nat) (y2 : List V) : runV C (k + 1) 7 [V.sl y1 y2] = T7 (orc C k) k m q0 q1 y1 y2 := by kernel_rfl
theorem E7 (y1 : Nat) (y2 : List V) {r : V} (h : T7 (orcE C) 0 0 0 0 y1 y2 = some r) : runE C 7 [V.sl y1 y2] = some r := ofR (F := fun s => T7 (orc C s.k) s.k s.m 0 0 y1 y2) (fun k => e7 k k 0 0 y1 y2)
 (by
  unfold T7
  exact cC) h

noncomputable def T8 (O : Orc) (k m q0 q1 : Nat) (y1 : Nat) (y2 : List V) : Option V := need (O.W 7 28 [] [V.ptr 0 0] [Ob.box 80 [V.sl y1 y2, V.int .i64 0] false]) fun x1 => asTup (some x1) fun x2 =>
 PI.asInt .i64 x2[0]? fun x3 => PI.asInt .i64 x2[1]? fun x4 => PI.asInt .i64 x2[2]? fun x5 => PI.asInt .i64 x2[3]? fun x6 => asSl x2[4]? fun x7 x8 => PI.asInt .i64 x2[5]? fun x9 => PI.asBool x2[6]? fun
 x10 => asSl x2[7]? fun x11 x12 => PI.asInt .i64 x2[8]? fun x13 => need (O.W 7 29 [] [V.ptr 0 0] [Ob.box 80 [V.sl x11 x12, V.int .i64 x13] false]) fun x14 => asTup (some x14) fun x15 => PI.asInt .i64
 x15[0]? fun x16 => PI.asInt .i64 x15[1]? fun x17 => PI.asInt .i64 x15[2]? fun x18 => asStr x15[3]? fun x19 => asSl x15[4]? fun x20 x21 => PI.asInt .i64 x15[5]? fun x22 => need (O.R 7 31 [V.pin [V.int
 .i64 x3, V.int .i64 x4, V.int .i64 x5, V.int .i64 x6, V.sl x7 x8, V.int .i64 x9, V.bool x10] 0]) fun x23 => asTup (some x23) fun x24 => PI.asInt .i64 x24[0]? fun x25 => need (O.R 7 31 [V.pin [V.int
 .i64 x3, V.int .i64 x4, V.int .i64 x5, V.int .i64 x6, V.sl x7 x8, V.int .i64 x9, V.bool x10] 0]) fun x26 => asTup (some x26) fun x27 => PI.asInt .i64 x27[0]? fun x28 => need (O.R 7 31 [V.pin [V.int
 .i64 x3, V.int .i64 x4, V.int .i64 x5, V.int .i64 x6, V.sl x7 x8, V.int .i64 x9, V.bool x10] 0]) fun x29 => asTup (some x29) fun x30 => PI.asInt .i64 x30[0]? fun x31 => need (O.W 7 30 [] [V.ptr 0 0,
 V.sl 5 [V.int .i64 x18, V.int .i64 x18, V.int .i64 x25, V.int .i64 (IntKind.i64.wrap (x9 - x28)), V.int .i64 (IntKind.i64.wrap (IntKind.i64.wrap (x9 - x31) + 1))]] [Ob.box 80 [V.sl x20 x21, V.int .i64
 x22] false]) fun x32 => asTup (some x32) fun x33 => PI.asInt .i64 x33[0]? fun x34 => asSl x33[1]? fun x35 x36 => PI.asInt .i64 x33[2]? fun x37 => some (V.tup [V.int .i64 x3, V.int .i64 x4, V.int .i64
 x5, V.int .i64 x6, V.sl x7 x8, V.int .i64 x9, V.bool x10, V.int .i64 x34, V.str x19])
theorem e8 (k m q0 q1 : Nat) (y1 : Nat) (y2 : List V) : runV C (k + 8) 8 [V.sl y1 y2] = T8 (orc C k) k m q0 q1 y1 y2 := by kernel_rfl
theorem E8 (y1 : Nat) (y2 : List V) {r : V} (h : T8 (orcE C) 0 0 0 0 y1 y2 = some r) : runE C 8 [V.sl y1 y2] = some r := ofR (F := fun s => T8 (orc C s.k) s.k s.m 0 0 y1 y2) (fun k => e8 k k 0 0 y1 y2)
 (by
  unfold T8
  repeat' first | with_reducible exact cC | with_reducible refine cN cR fun _ => ?_ | with_reducible refine cN cQ fun _ => ?_ | with_reducible refine cT fun _ => ?_ | with_reducible refine cI fun _ => ?_ | with_reducible refine cB fun _ => ?_ | with_reducible refine cS fun _ => ?_ | with_reducible refine cL fun _ _ => ?_ | with_reducible refine cN cC fun _ => ?_ | with_reducible exact cR | with_reducible exact cQ) h

noncomputable def T9 (O : Orc) (k m q0 q1 : Nat) (y1 : Int) (y2 : Int) (y3 : Int) (y4 : Int) (y5 : Nat) (y6 : List V) (y7 : Int) (y8 : Bool) (y9 : Int) (y10 : ByteArray) : Option V := need (O.R 0 12
 [V.agg [V.int .i64 y1, V.int .i64 y2, V.int .i64 y3, V.int .i64 y4, V.sl y5 y6, V.int .i64 y7, V.bool y8]]) fun x1 => asTup (some x1) fun x2 => PI.asInt .i64 x2[0]? fun x3 => bif x3 != 0 then some
 (V.tup [V.int .i64 x3, V.int .i64 0, V.int .i64 0, V.int .i64 0, V.int .i64 0, V.osl 0 [], V.int .i64 0, V.bool false, V.int .i64 0, V.int .i64 0, V.int .i64 0, V.str { data := #[] }]) else need (O.R
 0 32 [V.agg [V.int .i64 y1, V.int .i64 y4, V.int .i64 y9, V.str y10]]) fun x4 => asTup (some x4) fun x5 => PI.asInt .i64 x5[0]? fun x6 => bif x6 != 0 then some (V.tup [V.int .i64 x6, V.int .i64 0,
 V.int .i64 0, V.int .i64 0, V.int .i64 0, V.osl 0 [], V.int .i64 0, V.bool false, V.int .i64 0, V.int .i64 0, V.int .i64 0, V.str { data := #[] }]) else need (O.R 0 33 [V.agg [V.int .i64 y1, V.int
 .i64 y2, V.int .i64 y3, V.int .i64 y4, V.sl y5 y6, V.int .i64 y7, V.bool y8]]) fun x7 => asTup (some x7) fun x8 => PI.asInt .i64 x8[0]? fun x9 => PI.asInt .i64 x8[1]? fun x10 => PI.asInt .i64 x8[2]?
 fun x11 => PI.asInt .i64 x8[3]? fun x12 => asOsl x8[4]? fun x13 x14 => PI.asInt .i64 x8[5]? fun x15 => PI.asBool x8[6]? fun x16 => need (O.R 0 35 [V.agg [V.int .i64 x9, V.int .i64 (IntKind.i64.wrap
 (y2 + y9)), V.int .i64 x11, V.int .i64 (IntKind.i64.wrap (y4 + 1)), V.sl x13 x14, V.int .i64 x15, V.bool x16]]) fun x17 => asTup (some x17) fun x18 => PI.asInt .i64 x18[0]? fun x19 => need (O.R 0 34
 [V.int .i64 x19, V.int .i64 0, V.int .i64 y7]) fun x20 => asTup (some x20) fun x21 => PI.asBool x21[0]? fun x22 => bif !x22 then some (V.tup [V.int .i64 3, V.int .i64 0, V.int .i64 0, V.int .i64 0,
 V.int .i64 0, V.osl 0 [], V.int .i64 0, V.bool false, V.int .i64 0, V.int .i64 0, V.int .i64 0, V.str { data := #[] }]) else need (O.R 0 36 [V.int .i64 (IntKind.i64.wrap (y2 + y9))]) fun x23 => asTup
 (some x23) fun x24 => PI.asBool x24[0]? fun x25 => bif !x25 then some (V.tup [V.int .i64 3, V.int .i64 0, V.int .i64 0, V.int .i64 0, V.int .i64 0, V.osl 0 [], V.int .i64 0, V.bool false, V.int .i64
 0, V.int .i64 0, V.int .i64 0, V.str { data := #[] }]) else must (false || x14.all flatV) (some (V.tup [V.int .i64 0, V.int .i64 x9, V.int .i64 (IntKind.i64.wrap (y2 + y9)), V.int .i64 x11, V.int .i64
 (IntKind.i64.wrap (y4 + 1)), V.osl x13 x14, V.int .i64 x15, V.bool x16, V.int .i64 y1, V.int .i64 y4, V.int .i64 y9, V.str y10]))
theorem e9 (k m q0 q1 : Nat) (y1 : Int) (y2 : Int) (y3 : Int) (y4 : Int) (y5 : Nat) (y6 : List V) (y7 : Int) (y8 : Bool) (y9 : Int) (y10 : ByteArray) : runV C (k + 1) 9 [V.agg [V.int .i64 y1, V.int
 .i64 y2, V.int .i64 y3, V.int .i64 y4, V.sl y5 y6, V.int .i64 y7, V.bool y8], V.int .i64 y9, V.str y10] = T9 (orc C k) k m q0 q1 y1 y2 y3 y4 y5 y6 y7 y8 y9 y10 := by kernel_rfl
theorem E9 (y1 : Int) (y2 : Int) (y3 : Int) (y4 : Int) (y5 : Nat) (y6 : List V) (y7 : Int) (y8 : Bool) (y9 : Int) (y10 : ByteArray) {r : V} (h : T9 (orcE C) 0 0 0 0 y1 y2 y3 y4 y5 y6 y7 y8 y9 y10 =
 some r) : runE C 9 [V.agg [V.int .i64 y1, V.int .i64 y2, V.int .i64 y3, V.int .i64 y4, V.sl y5 y6, V.int .i64 y7, V.bool y8], V.int .i64 y9, V.str y10] = some r := ofR (F := fun s => T9 (orc C s.k)
 s.k s.m 0 0 y1 y2 y3 y4 y5 y6 y7 y8 y9 y10) (fun k => e9 k k 0 0 y1 y2 y3 y4 y5 y6 y7 y8 y9 y10) (by
  unfold T9
  repeat' first | with_reducible exact cC | with_reducible refine cN cR fun _ => ?_ | with_reducible refine cT fun _ => ?_ | with_reducible refine cI fun _ => ?_ | with_reducible refine cM ?_ | with_reducible refine cF ?_ ?_ | with_reducible refine cB fun _ => ?_ | with_reducible refine cO fun _ _ => ?_ | with_reducible refine cN cC fun _ => ?_ | with_reducible exact cR) h

noncomputable def T10 (O : Orc) (k m q0 q1 : Nat) (y1 : Int) (y2 : Int) (y3 : Int) (y4 : Int) (y5 : Nat) (y6 : List V) (y7 : Int) (y8 : Bool) (y9 : Int) (y10 : ByteArray) : Option V := need (O.R 0 37
 [V.agg [V.int .i64 y1, V.int .i64 y2, V.int .i64 y3, V.int .i64 y4, V.sl y5 y6, V.int .i64 y7, V.bool y8]]) fun x1 => asTup (some x1) fun x2 => PI.asInt .i64 x2[0]? fun x3 => bif x3 != 0 then some
 (V.tup [V.int .i64 x3, V.int .i64 0, V.int .i64 0, V.int .i64 0, V.int .i64 0, V.sl 0 [], V.int .i64 0, V.bool false, V.int .i64 0, V.int .i64 0, V.int .i64 0, V.str { data := #[] }]) else need (O.R 0
 38 [V.agg [V.int .i64 y1, V.int .i64 y2, V.int .i64 y3, V.int .i64 y4, V.sl y5 y6, V.int .i64 y7, V.bool y8]]) fun x4 => asTup (some x4) fun x5 => PI.asInt .i64 x5[0]? fun x6 => PI.asInt .i64 x5[1]?
 fun x7 => PI.asInt .i64 x5[2]? fun x8 => PI.asInt .i64 x5[3]? fun x9 => asOsl x5[4]? fun x10 x11 => PI.asInt .i64 x5[5]? fun x12 => PI.asBool x5[6]? fun x13 => need (O.W 0 39 [] [V.ptr 0 0, V.int .i64
 y9, V.str y10] [Ob.box 26 [V.int .i64 x6, V.int .i64 x7, V.int .i64 x8, V.int .i64 x9, V.ref 1, V.int .i64 x12, V.bool x13] false, Ob.row 2 x10 x11 false]) fun x14 => asTup (some x14) fun x15 =>
 PI.asInt .i64 x15[0]? fun x16 => PI.asInt .i64 x15[1]? fun x17 => PI.asInt .i64 x15[2]? fun x18 => asStr x15[3]? fun x19 => PI.asInt .i64 x15[4]? fun x20 => PI.asInt .i64 x15[5]? fun x21 => PI.asInt
 .i64 x15[6]? fun x22 => PI.asInt .i64 x15[7]? fun x23 => PI.asInt .i64 x15[8]? fun x24 => asOsl x15[9]? fun x25 x26 => PI.asInt .i64 x15[10]? fun x27 => PI.asBool x15[11]? fun x28 => bif x20 != 0 then
 some (V.tup [V.int .i64 x20, V.int .i64 0, V.int .i64 0, V.int .i64 0, V.int .i64 0, V.sl 0 [], V.int .i64 0, V.bool false, V.int .i64 0, V.int .i64 0, V.int .i64 0, V.str { data := #[] }]) else some
 (V.tup [V.int .i64 0, V.int .i64 x21, V.int .i64 x22, V.int .i64 x23, V.int .i64 x24, V.sl x25 x26, V.int .i64 x27, V.bool x28, V.int .i64 x16, V.int .i64 x17, V.int .i64 x18, V.str x19])
theorem e10 (k m q0 q1 : Nat) (y1 : Int) (y2 : Int) (y3 : Int) (y4 : Int) (y5 : Nat) (y6 : List V) (y7 : Int) (y8 : Bool) (y9 : Int) (y10 : ByteArray) : runV C (k + 1) 10 [V.agg [V.int .i64 y1, V.int
 .i64 y2, V.int .i64 y3, V.int .i64 y4, V.sl y5 y6, V.int .i64 y7, V.bool y8], V.int .i64 y9, V.str y10] = T10 (orc C k) k m q0 q1 y1 y2 y3 y4 y5 y6 y7 y8 y9 y10 := by kernel_rfl
theorem E10 (y1 : Int) (y2 : Int) (y3 : Int) (y4 : Int) (y5 : Nat) (y6 : List V) (y7 : Int) (y8 : Bool) (y9 : Int) (y10 : ByteArray) {r : V} (h : T10 (orcE C) 0 0 0 0 y1 y2 y3 y4 y5 y6 y7 y8 y9 y10 =
 some r) : runE C 10 [V.agg [V.int .i64 y1, V.int .i64 y2, V.int .i64 y3, V.int .i64 y4, V.sl y5 y6, V.int .i64 y7, V.bool y8], V.int .i64 y9, V.str y10] = some r := ofR (F := fun s => T10 (orc C s.k)
 s.k s.m 0 0 y1 y2 y3 y4 y5 y6 y7 y8 y9 y10) (fun k => e10 k k 0 0 y1 y2 y3 y4 y5 y6 y7 y8 y9 y10) (by
  unfold T10
  repeat' first | with_reducible exact cC | with_reducible refine cN cR fun _ => ?_ | with_reducible refine cN cQ fun _ => ?_ | with_reducible refine cT fun _ => ?_ | with_reducible refine cI fun _ => ?_ | with_reducible refine cF ?_ ?_ | with_reducible refine cB fun _ => ?_ | with_reducible refine cS fun _ => ?_ | with_reducible refine cO fun _ _ => ?_ | with_reducible refine cN cC fun _ => ?_ | with_reducible exact cR | with_reducible exact cQ) h

noncomputable def T11 (O : Orc) (k m q0 q1 : Nat) (y1 : Int) (y2 : Int) (y3 : Int) (y4 : Int) (y5 : Nat) (y6 : List V) (y7 : Int) (y8 : Bool) : Option V := need (O.R 0 12 [V.agg [V.int .i64 y1, V.int
 .i64 y2, V.int .i64 y3, V.int .i64 y4, V.sl y5 y6, V.int .i64 y7, V.bool y8]]) fun x1 => asTup (some x1) fun x2 => PI.asInt .i64 x2[0]? fun x3 => bif x3 != 0 then some (V.tup [V.int .i64 x3, V.int
 .i64 0]) else need (O.R 0 35 [V.agg [V.int .i64 y1, V.int .i64 y2, V.int .i64 y3, V.int .i64 y4, V.sl y5 y6, V.int .i64 y7, V.bool y8]]) fun x4 => asTup (some x4) fun x5 => PI.asInt .i64 x5[0]? fun x6
 => some (V.tup [V.int .i64 0, V.int .i64 x6])
theorem e11 (k m q0 q1 : Nat) (y1 : Int) (y2 : Int) (y3 : Int) (y4 : Int) (y5 : Nat) (y6 : List V) (y7 : Int) (y8 : Bool) : runV C (k + 1) 11 [V.agg [V.int .i64 y1, V.int .i64 y2, V.int .i64 y3, V.int
 .i64 y4, V.sl y5 y6, V.int .i64 y7, V.bool y8]] = T11 (orc C k) k m q0 q1 y1 y2 y3 y4 y5 y6 y7 y8 := by kernel_rfl
theorem E11 (y1 : Int) (y2 : Int) (y3 : Int) (y4 : Int) (y5 : Nat) (y6 : List V) (y7 : Int) (y8 : Bool) {r : V} (h : T11 (orcE C) 0 0 0 0 y1 y2 y3 y4 y5 y6 y7 y8 = some r) : runE C 11 [V.agg [V.int
 .i64 y1, V.int .i64 y2, V.int .i64 y3, V.int .i64 y4, V.sl y5 y6, V.int .i64 y7, V.bool y8]] = some r := ofR (F := fun s => T11 (orc C s.k) s.k s.m 0 0 y1 y2 y3 y4 y5 y6 y7 y8) (fun k => e11 k k 0 0
 y1 y2 y3 y4 y5 y6 y7 y8) (by
  unfold T11
  repeat' first | with_reducible exact cC | with_reducible refine cN cR fun _ => ?_ | with_reducible refine cT fun _ => ?_ | with_reducible refine cI fun _ => ?_ | with_reducible refine cF ?_ ?_ | with_reducible refine cN cC fun _ => ?_ | with_reducible exact cR) h

noncomputable def T12 (O : Orc) (k m q0 q1 : Nat) (y1 : Int) (y2 : Int) (y3 : Int) (y4 : Int) (y5 : Nat) (y6 : List V) (y7 : Int) (y8 : Bool) : Option V := need (O.R 0 40 [V.int .i64 y1]) fun x1 =>
 asTup (some x1) fun x2 => PI.asBool x2[0]? fun x3 => bif !x3 then some (V.tup [V.int .i64 1]) else need (O.R 0 36 [V.int .i64 y2]) fun x4 => asTup (some x4) fun x5 => PI.asBool x5[0]? fun x6 => bif
 !x6 then some (V.tup [V.int .i64 3]) else need (O.R 0 36 [V.int .i64 y3]) fun x7 => asTup (some x7) fun x8 => PI.asBool x8[0]? fun x9 => bif !x9 then some (V.tup [V.int .i64 3]) else need (O.R 0 36
 [V.int .i64 y7]) fun x10 => asTup (some x10) fun x11 => PI.asBool x11[0]? fun x12 => bif !x12 then some (V.tup [V.int .i64 3]) else need (O.R 0 34 [V.int .i64 y4, V.int .i64 1, V.int .i64 1000001])
 fun x13 => asTup (some x13) fun x14 => PI.asBool x14[0]? fun x15 => bif !x15 then some (V.tup [V.int .i64 3]) else bif decide ((↑y5 : Int) > 60) then some (V.tup [V.int .i64 2]) else O.L 0 12 1 [true,
 true, false, true] [] k [(1, V.ptr 0 0), (39, V.sl y5 y6), (40, V.int .i64 (↑y5 : Int)), (41, V.int .i64 0)] [Ob.box 26 [V.int .i64 y1, V.int .i64 y2, V.int .i64 y3, V.int .i64 y4, V.sl y5 y6, V.int
 .i64 y7, V.bool y8] false]
theorem e12 (k m q0 q1 : Nat) (y1 : Int) (y2 : Int) (y3 : Int) (y4 : Int) (y5 : Nat) (y6 : List V) (y7 : Int) (y8 : Bool) : runV C (k + 1) 12 [V.agg [V.int .i64 y1, V.int .i64 y2, V.int .i64 y3, V.int
 .i64 y4, V.sl y5 y6, V.int .i64 y7, V.bool y8]] = T12 (orc C k) k m q0 q1 y1 y2 y3 y4 y5 y6 y7 y8 := by kernel_rfl
theorem E12 (y1 : Int) (y2 : Int) (y3 : Int) (y4 : Int) (y5 : Nat) (y6 : List V) (y7 : Int) (y8 : Bool) {r : V} (h : T12 (orcE C) 0 0 0 0 y1 y2 y3 y4 y5 y6 y7 y8 = some r) : runE C 12 [V.agg [V.int
 .i64 y1, V.int .i64 y2, V.int .i64 y3, V.int .i64 y4, V.sl y5 y6, V.int .i64 y7, V.bool y8]] = some r := ofR (F := fun s => T12 (orc C s.k) s.k s.m 0 0 y1 y2 y3 y4 y5 y6 y7 y8) (fun k => e12 k k 0 0
 y1 y2 y3 y4 y5 y6 y7 y8) (by
  unfold T12
  repeat' first | with_reducible exact cC | with_reducible refine cN cR fun _ => ?_ | with_reducible refine cT fun _ => ?_ | with_reducible refine cF ?_ ?_ | with_reducible refine cB fun _ => ?_ | with_reducible refine cN cC fun _ => ?_ | with_reducible exact cR | exact cD0 gK) h

noncomputable def T28 (O : Orc) (k m q0 q1 : Nat) (y1 : Nat) (y2 : List V) (y3 : Int) : Option V := need (O.W 0 52 [] [V.ptr 0 0, V.int .i64 2] [Ob.box 80 [V.sl y1 y2, V.int .i64 y3] false]) fun x1 =>
 asTup (some x1) fun x2 => PI.asInt .i64 x2[0]? fun x3 => asSl x2[1]? fun x4 x5 => PI.asInt .i64 x2[2]? fun x6 => need (O.W 0 52 [] [V.ptr 0 0, V.int .i64 9] [Ob.box 80 [V.sl x4 x5, V.int .i64 x6]
 false]) fun x7 => asTup (some x7) fun x8 => PI.asInt .i64 x8[0]? fun x9 => asSl x8[1]? fun x10 x11 => PI.asInt .i64 x8[2]? fun x12 => need (O.W 0 30 [] [V.ptr 0 0, V.sl 4 [V.int .i64 100, V.int .i64
 1000, V.int .i64 60, V.int .i64 1000000000000000]] [Ob.box 80 [V.sl x10 x11, V.int .i64 x12] false]) fun x13 => asTup (some x13) fun x14 => PI.asInt .i64 x14[0]? fun x15 => asSl x14[1]? fun x16 x17 =>
 PI.asInt .i64 x14[2]? fun x18 => need (O.W 0 52 [] [V.ptr 0 0, V.int .i64 60] [Ob.box 80 [V.sl x16 x17, V.int .i64 x18] false]) fun x19 => asTup (some x19) fun x20 => PI.asInt .i64 x20[0]? fun x21 =>
 asSl x20[1]? fun x22 x23 => PI.asInt .i64 x20[2]? fun x24 => need (O.W 0 52 [] [V.ptr 0 0, V.int .i64 (IntKind.i64.wrap (x21 + 1))] [Ob.box 80 [V.sl x22 x23, V.int .i64 x24] false]) fun x25 => asTup
 (some x25) fun x26 => PI.asInt .i64 x26[0]? fun x27 => asSl x26[1]? fun x28 x29 => PI.asInt .i64 x26[2]? fun x30 => bif IntKind.i64.wrap (1 + x3) == 2 then O.X 0 28 [] [Ob.box 80 [V.u, V.u] false] 0
 [true, true, true, true, true, true, true, false, true] [] k [(0, V.ptr 0 0), (2, V.ptr 1 0), (3, V.ptr 3 0), (6, V.int .i64 1)] [Ob.box 80 [V.sl x28 x29, V.int .i64 x30] false, Ob.box 26 [V.int .i64
 0, V.int .i64 0, V.int .i64 0, V.int .i64 0, V.ref 2, V.int .i64 0, V.bool false] false, Ob.row 2 0 [] false, Ob.box 26 [V.int .i64 (IntKind.i64.wrap (1 + x3)), V.int .i64 x27, V.int .i64 x21, V.int
 .i64 (IntKind.i64.wrap (1 + x9)), V.ref 4, V.int .i64 x15, V.bool false] false, Ob.row 2 0 [] false] else O.X 0 28 [] [Ob.box 80 [V.u, V.u] false] 0 [true, true, true, true, true, true, true, false,
 true] [] k [(0, V.ptr 0 0), (2, V.ptr 1 0), (3, V.ptr 3 0), (6, V.int .i64 1)] [Ob.box 80 [V.sl x28 x29, V.int .i64 x30] false, Ob.box 26 [V.int .i64 0, V.int .i64 0, V.int .i64 0, V.int .i64 0, V.ref
 2, V.int .i64 0, V.bool false] false, Ob.row 2 0 [] false, Ob.box 26 [V.int .i64 (IntKind.i64.wrap (1 + x3)), V.int .i64 x21, V.int .i64 x27, V.int .i64 (IntKind.i64.wrap (1 + x9)), V.ref 4, V.int
 .i64 x15, V.bool false] false, Ob.row 2 0 [] false]
theorem e28 (k m q0 q1 : Nat) (y1 : Nat) (y2 : List V) (y3 : Int) : runW C (k + 1) 28 [] [V.ptr 0 0] [Ob.box 80 [V.sl y1 y2, V.int .i64 y3] false] = T28 (orc C k) k m q0 q1 y1 y2 y3 := by kernel_rfl
theorem E28 (y1 : Nat) (y2 : List V) (y3 : Int) {r : V} (h : T28 (orcE C) 0 0 0 0 y1 y2 y3 = some r) : runWE C 28 [] [V.ptr 0 0] [Ob.box 80 [V.sl y1 y2, V.int .i64 y3] false] = some r := ofW (F := fun
 s => T28 (orc C s.k) s.k s.m 0 0 y1 y2 y3) (fun k => e28 k k 0 0 y1 y2 y3) (by
  unfold T28
  repeat' first | with_reducible exact cC | with_reducible refine cN cQ fun _ => ?_ | with_reducible refine cT fun _ => ?_ | with_reducible refine cI fun _ => ?_ | with_reducible refine cF ?_ ?_ | with_reducible refine cL fun _ _ => ?_ | with_reducible refine cN cC fun _ => ?_ | with_reducible exact cQ | exact cX0 gK) h

noncomputable def T29 (O : Orc) (k m q0 q1 : Nat) (y1 : Nat) (y2 : List V) (y3 : Int) : Option V := need (O.W 0 52 [] [V.ptr 0 0, V.int .i64 2] [Ob.box 80 [V.sl y1 y2, V.int .i64 y3] false]) fun x1 =>
 asTup (some x1) fun x2 => PI.asInt .i64 x2[0]? fun x3 => asSl x2[1]? fun x4 x5 => PI.asInt .i64 x2[2]? fun x6 => need (O.W 0 52 [] [V.ptr 0 0, V.int .i64 6] [Ob.box 80 [V.sl x4 x5, V.int .i64 x6]
 false]) fun x7 => asTup (some x7) fun x8 => PI.asInt .i64 x8[0]? fun x9 => asSl x8[1]? fun x10 x11 => PI.asInt .i64 x8[2]? fun x12 => need (O.W 0 52 [] [V.ptr 0 0, V.int .i64 60] [Ob.box 80 [V.sl x10
 x11, V.int .i64 x12] false]) fun x13 => asTup (some x13) fun x14 => PI.asInt .i64 x14[0]? fun x15 => asSl x14[1]? fun x16 x17 => PI.asInt .i64 x14[2]? fun x18 => need (O.W 0 53 [] [V.ptr 0 0] [Ob.box
 80 [V.sl x16 x17, V.int .i64 x18] false]) fun x19 => asTup (some x19) fun x20 => asStr x20[0]? fun x21 => asSl x20[1]? fun x22 x23 => PI.asInt .i64 x20[2]? fun x24 => need (O.W 0 52 [] [V.ptr 0 0,
 V.int .i64 20] [Ob.box 80 [V.sl x22 x23, V.int .i64 x24] false]) fun x25 => asTup (some x25) fun x26 => PI.asInt .i64 x26[0]? fun x27 => asSl x26[1]? fun x28 x29 => PI.asInt .i64 x26[2]? fun x30 =>
 bif x27 == 0 then need (O.W 0 30 [] [V.ptr 0 0, V.sl 3 [V.int .i64 0, V.int .i64 3, V.int .i64 (-1)]] [Ob.box 80 [V.sl x28 x29, V.int .i64 x30] false]) fun x31 => asTup (some x31) fun x32 => PI.asInt
 .i64 x32[0]? fun x33 => asSl x32[1]? fun x34 x35 => PI.asInt .i64 x32[2]? fun x36 => some (V.tup [V.int .i64 x33, V.int .i64 (IntKind.i64.wrap (1 + x9)), V.int .i64 (IntKind.i64.wrap (1 + x15)), V.str
 x21, V.sl x34 x35, V.int .i64 x36]) else bif x27 == 1 then need (O.W 0 30 [] [V.ptr 0 0, V.sl 3 [V.int .i64 0, V.int .i64 1000000, V.int .i64 1000001]] [Ob.box 80 [V.sl x28 x29, V.int .i64 x30]
 false]) fun x37 => asTup (some x37) fun x38 => PI.asInt .i64 x38[0]? fun x39 => asSl x38[1]? fun x40 x41 => PI.asInt .i64 x38[2]? fun x42 => some (V.tup [V.int .i64 (IntKind.i64.wrap (1 + x3)), V.int
 .i64 x39, V.int .i64 (IntKind.i64.wrap (1 + x15)), V.str x21, V.sl x40 x41, V.int .i64 x42]) else bif x27 == 2 then need (O.W 0 30 [] [V.ptr 0 0, V.sl 3 [V.int .i64 0, V.int .i64 1000000000, V.int
 .i64 1000000001]] [Ob.box 80 [V.sl x28 x29, V.int .i64 x30] false]) fun x43 => asTup (some x43) fun x44 => PI.asInt .i64 x44[0]? fun x45 => asSl x44[1]? fun x46 x47 => PI.asInt .i64 x44[2]? fun x48 =>
 some (V.tup [V.int .i64 (IntKind.i64.wrap (1 + x3)), V.int .i64 (IntKind.i64.wrap (1 + x9)), V.int .i64 x45, V.str x21, V.sl x46 x47, V.int .i64 x48]) else bif x27 == 3 then need (O.W 0 52 [] [V.ptr 0
 0, V.int .i64 5] [Ob.box 80 [V.sl x28 x29, V.int .i64 x30] false]) fun x49 => asTup (some x49) fun x50 => PI.asInt .i64 x50[0]? fun x51 => asSl x50[1]? fun x52 x53 => PI.asInt .i64 x50[2]? fun x54 =>
 must (inB x51 5) (asStr [V.str { data := #[] }, V.str { data := #[OfNat.ofNat 65] }, V.str { data := #[OfNat.ofNat 97, OfNat.ofNat 98, OfNat.ofNat 99, OfNat.ofNat 100, OfNat.ofNat 101, OfNat.ofNat
 102, OfNat.ofNat 103, OfNat.ofNat 104, OfNat.ofNat 105, OfNat.ofNat 106, OfNat.ofNat 107, OfNat.ofNat 108, OfNat.ofNat 109] }, V.str { data := #[OfNat.ofNat 97, OfNat.ofNat 98, OfNat.ofNat 99,
 OfNat.ofNat 100, OfNat.ofNat 101, OfNat.ofNat 102, OfNat.ofNat 103, OfNat.ofNat 104, OfNat.ofNat 105, OfNat.ofNat 106, OfNat.ofNat 107, OfNat.ofNat 108] }, V.str { data := #[OfNat.ofNat 97,
 OfNat.ofNat 32, OfNat.ofNat 98] }][x51.toNat * 1]? fun x55 => some (V.tup [V.int .i64 (IntKind.i64.wrap (1 + x3)), V.int .i64 (IntKind.i64.wrap (1 + x9)), V.int .i64 (IntKind.i64.wrap (1 + x15)),
 V.str x55, V.sl x52 x53, V.int .i64 x54])) else some (V.tup [V.int .i64 (IntKind.i64.wrap (1 + x3)), V.int .i64 (IntKind.i64.wrap (1 + x9)), V.int .i64 (IntKind.i64.wrap (1 + x15)), V.str x21, V.sl
 x28 x29, V.int .i64 x30])
theorem e29 (k m q0 q1 : Nat) (y1 : Nat) (y2 : List V) (y3 : Int) : runW C (k + 1) 29 [] [V.ptr 0 0] [Ob.box 80 [V.sl y1 y2, V.int .i64 y3] false] = T29 (orc C k) k m q0 q1 y1 y2 y3 := by kernel_rfl
theorem E29 (y1 : Nat) (y2 : List V) (y3 : Int) {r : V} (h : T29 (orcE C) 0 0 0 0 y1 y2 y3 = some r) : runWE C 29 [] [V.ptr 0 0] [Ob.box 80 [V.sl y1 y2, V.int .i64 y3] false] = some r := ofW (F := fun
 s => T29 (orc C s.k) s.k s.m 0 0 y1 y2 y3) (fun k => e29 k k 0 0 y1 y2 y3) (by
  unfold T29
  repeat' first | with_reducible exact cC | with_reducible refine cN cQ fun _ => ?_ | with_reducible refine cT fun _ => ?_ | with_reducible refine cI fun _ => ?_ | with_reducible refine cM ?_ | with_reducible refine cF ?_ ?_ | with_reducible refine cS fun _ => ?_ | with_reducible refine cL fun _ _ => ?_ | with_reducible refine cN cC fun _ => ?_ | with_reducible exact cQ) h

noncomputable def T31 (O : Orc) (k m q0 q1 : Nat) (y1 : Int) (y2 : Int) (y3 : Int) (y4 : Int) (y5 : Nat) (y6 : List V) (y7 : Int) (y8 : Bool) : Option V := bif y1 == 1 then some (V.tup [V.int .i64
 (IntKind.i64.wrap (y2 - y3))]) else some (V.tup [V.int .i64 (IntKind.i64.wrap (y3 - y2))])
theorem e31 (k m q0 q1 : Nat) (y1 : Int) (y2 : Int) (y3 : Int) (y4 : Int) (y5 : Nat) (y6 : List V) (y7 : Int) (y8 : Bool) : runV C (k + 1) 31 [V.pin [V.int .i64 y1, V.int .i64 y2, V.int .i64 y3, V.int
 .i64 y4, V.sl y5 y6, V.int .i64 y7, V.bool y8] 0] = T31 (orc C k) k m q0 q1 y1 y2 y3 y4 y5 y6 y7 y8 := by kernel_rfl
theorem E31 (y1 : Int) (y2 : Int) (y3 : Int) (y4 : Int) (y5 : Nat) (y6 : List V) (y7 : Int) (y8 : Bool) {r : V} (h : T31 (orcE C) 0 0 0 0 y1 y2 y3 y4 y5 y6 y7 y8 = some r) : runE C 31 [V.pin [V.int
 .i64 y1, V.int .i64 y2, V.int .i64 y3, V.int .i64 y4, V.sl y5 y6, V.int .i64 y7, V.bool y8] 0] = some r := ofR (F := fun s => T31 (orc C s.k) s.k s.m 0 0 y1 y2 y3 y4 y5 y6 y7 y8) (fun k => e31 k k 0 0
 y1 y2 y3 y4 y5 y6 y7 y8) (by
  unfold T31
  repeat' first | with_reducible exact cC | with_reducible refine cF ?_ ?_) h

noncomputable def T30 (O : Orc) (k m q0 q1 : Nat) (y1 : Nat) (y2 : List V) (y3 : Nat) (y4 : List V) (y5 : Int) : Option V := need (O.W 0 52 [] [V.ptr 0 0, V.int .i64 (↑y1 : Int)] [Ob.box 80 [V.sl y3
 y4, V.int .i64 y5] false]) fun x1 => asTup (some x1) fun x2 => PI.asInt .i64 x2[0]? fun x3 => asSl x2[1]? fun x4 x5 => PI.asInt .i64 x2[2]? fun x6 => must (inB x3 y1) (PI.asInt .i64 y2[x3.toNat * 1]?
 fun x7 => some (V.tup [V.int .i64 x7, V.sl x4 x5, V.int .i64 x6]))
theorem e30 (k m q0 q1 : Nat) (y1 : Nat) (y2 : List V) (y3 : Nat) (y4 : List V) (y5 : Int) : runW C (k + 1) 30 [] [V.ptr 0 0, V.sl y1 y2] [Ob.box 80 [V.sl y3 y4, V.int .i64 y5] false] = T30 (orc C k) k
 m q0 q1 y1 y2 y3 y4 y5 := by kernel_rfl
theorem E30 (y1 : Nat) (y2 : List V) (y3 : Nat) (y4 : List V) (y5 : Int) {r : V} (h : T30 (orcE C) 0 0 0 0 y1 y2 y3 y4 y5 = some r) : runWE C 30 [] [V.ptr 0 0, V.sl y1 y2] [Ob.box 80 [V.sl y3 y4, V.int
 .i64 y5] false] = some r := ofW (F := fun s => T30 (orc C s.k) s.k s.m 0 0 y1 y2 y3 y4 y5) (fun k => e30 k k 0 0 y1 y2 y3 y4 y5) (by
  unfold T30
  repeat' first | with_reducible exact cC | with_reducible refine cN cQ fun _ => ?_ | with_reducible refine cT fun _ => ?_ | with_reducible refine cI fun _ => ?_ | with_reducible refine cM ?_ | with_reducible refine cL fun _ _ => ?_ | with_reducible refine cN cC fun _ => ?_ | with_reducible exact cQ) h

noncomputable def T32 (O : Orc) (k m q0 q1 : Nat) (y1 : Int) (y2 : Int) (y3 : Int) (y4 : ByteArray) : Option V := need (O.R 0 40 [V.int .i64 y1]) fun x1 => asTup (some x1) fun x2 => PI.asBool x2[0]?
 fun x3 => bif !x3 then some (V.tup [V.int .i64 1]) else need (O.R 0 41 [V.int .i64 y2]) fun x4 => asTup (some x4) fun x5 => PI.asBool x5[0]? fun x6 => bif !x6 then some (V.tup [V.int .i64 3]) else
 need (O.R 0 34 [V.int .i64 y3, V.int .i64 1, V.int .i64 1000000000]) fun x7 => asTup (some x7) fun x8 => PI.asBool x8[0]? fun x9 => bif !x9 then some (V.tup [V.int .i64 3]) else need (O.R 0 34 [V.int
 .i64 (↑y4.size : Int), V.int .i64 1, V.int .i64 12]) fun x10 => asTup (some x10) fun x11 => PI.asBool x11[0]? fun x12 => bif !x12 then some (V.tup [V.int .i64 5]) else must (decide (y4.size ≤
 9223372036854775807) && true) (bif !strEq { data := (trimL y4.data.toList [97, 98, 99, 100, 101, 102, 103, 104, 105, 106, 107, 108, 109, 110, 111, 112, 113, 114, 115, 116, 117, 118, 119, 120, 121,
 122, 48, 49, 50, 51, 52, 53, 54, 55, 56, 57]).toArray } { data := #[] } then some (V.tup [V.int .i64 5]) else some (V.tup [V.int .i64 0]))
theorem e32 (k m q0 q1 : Nat) (y1 : Int) (y2 : Int) (y3 : Int) (y4 : ByteArray) : runV C (k + 1) 32 [V.agg [V.int .i64 y1, V.int .i64 y2, V.int .i64 y3, V.str y4]] = T32 (orc C k) k m q0 q1 y1 y2 y3 y4
 := by kernel_rfl
theorem E32 (y1 : Int) (y2 : Int) (y3 : Int) (y4 : ByteArray) {r : V} (h : T32 (orcE C) 0 0 0 0 y1 y2 y3 y4 = some r) : runE C 32 [V.agg [V.int .i64 y1, V.int .i64 y2, V.int .i64 y3, V.str y4]] = some
 r := ofR (F := fun s => T32 (orc C s.k) s.k s.m 0 0 y1 y2 y3 y4) (fun k => e32 k k 0 0 y1 y2 y3 y4) (by
  unfold T32
  repeat' first | with_reducible exact cC | with_reducible refine cN cR fun _ => ?_ | with_reducible refine cT fun _ => ?_ | with_reducible refine cM ?_ | with_reducible refine cF ?_ ?_ | with_reducible refine cB fun _ => ?_ | with_reducible refine cN cC fun _ => ?_ | with_reducible exact cR) h

noncomputable def T33 (O : Orc) (k m q0 q1 : Nat) (y1 : Int) (y2 : Int) (y3 : Int) (y4 : Int) (y5 : Nat) (y6 : List V) (y7 : Int) (y8 : Bool) : Option V := need (O.R 0 55 [V.sl y5 y6]) fun x1 => asTup
 (some x1) fun x2 => asOsl x2[0]? fun x3 x4 => must (false || x4.all flatV) (some (V.tup [V.int .i64 y1, V.int .i64 y2, V.int .i64 y3, V.int .i64 y4, V.osl x3 x4, V.int .i64 y7, V.bool y8]))
theorem e33 (k m q0 q1 : Nat) (y1 : Int) (y2 : Int) (y3 : Int) (y4 : Int) (y5 : Nat) (y6 : List V) (y7 : Int) (y8 : Bool) : runV C (k + 1) 33 [V.agg [V.int .i64 y1, V.int .i64 y2, V.int .i64 y3, V.int
 .i64 y4, V.sl y5 y6, V.int .i64 y7, V.bool y8]] = T33 (orc C k) k m q0 q1 y1 y2 y3 y4 y5 y6 y7 y8 := by kernel_rfl
theorem E33 (y1 : Int) (y2 : Int) (y3 : Int) (y4 : Int) (y5 : Nat) (y6 : List V) (y7 : Int) (y8 : Bool) {r : V} (h : T33 (orcE C) 0 0 0 0 y1 y2 y3 y4 y5 y6 y7 y8 = some r) : runE C 33 [V.agg [V.int
 .i64 y1, V.int .i64 y2, V.int .i64 y3, V.int .i64 y4, V.sl y5 y6, V.int .i64 y7, V.bool y8]] = some r := ofR (F := fun s => T33 (orc C s.k) s.k s.m 0 0 y1 y2 y3 y4 y5 y6 y7 y8) (fun k => e33 k k 0 0
 y1 y2 y3 y4 y5 y6 y7 y8) (by
  unfold T33
  repeat' first | with_reducible exact cC | with_reducible refine cN cR fun _ => ?_ | with_reducible refine cT fun _ => ?_ | with_reducible refine cM ?_ | with_reducible refine cO fun _ _ => ?_ | with_reducible refine cN cC fun _ => ?_ | with_reducible exact cR) h

noncomputable def T35 (O : Orc) (k m q0 q1 : Nat) (y1 : Int) (y2 : Int) (y3 : Int) (y4 : Int) (y5 : Nat) (y6 : List V) (y7 : Int) (y8 : Bool) : Option V := bif y1 == 1 then some (V.tup [V.int .i64
 (IntKind.i64.wrap (y2 - y3))]) else some (V.tup [V.int .i64 (IntKind.i64.wrap (y3 - y2))])
theorem e35 (k m q0 q1 : Nat) (y1 : Int) (y2 : Int) (y3 : Int) (y4 : Int) (y5 : Nat) (y6 : List V) (y7 : Int) (y8 : Bool) : runV C (k + 1) 35 [V.agg [V.int .i64 y1, V.int .i64 y2, V.int .i64 y3, V.int
 .i64 y4, V.sl y5 y6, V.int .i64 y7, V.bool y8]] = T35 (orc C k) k m q0 q1 y1 y2 y3 y4 y5 y6 y7 y8 := by kernel_rfl
theorem E35 (y1 : Int) (y2 : Int) (y3 : Int) (y4 : Int) (y5 : Nat) (y6 : List V) (y7 : Int) (y8 : Bool) {r : V} (h : T35 (orcE C) 0 0 0 0 y1 y2 y3 y4 y5 y6 y7 y8 = some r) : runE C 35 [V.agg [V.int
 .i64 y1, V.int .i64 y2, V.int .i64 y3, V.int .i64 y4, V.sl y5 y6, V.int .i64 y7, V.bool y8]] = some r := ofR (F := fun s => T35 (orc C s.k) s.k s.m 0 0 y1 y2 y3 y4 y5 y6 y7 y8) (fun k => e35 k k 0 0
 y1 y2 y3 y4 y5 y6 y7 y8) (by
  unfold T35
  repeat' first | with_reducible exact cC | with_reducible refine cF ?_ ?_) h

noncomputable def T34 (O : Orc) (k m q0 q1 : Nat) (y1 : Int) (y2 : Int) (y3 : Int) : Option V := bif decide (y2 ≤ y1) then some (V.tup [V.bool (decide (y1 ≤ y3))]) else some (V.tup [V.bool false])
theorem e34 (k m q0 q1 : Nat) (y1 : Int) (y2 : Int) (y3 : Int) : runV C (k + 1) 34 [V.int .i64 y1, V.int .i64 y2, V.int .i64 y3] = T34 (orc C k) k m q0 q1 y1 y2 y3 := by kernel_rfl
theorem E34 (y1 : Int) (y2 : Int) (y3 : Int) {r : V} (h : T34 (orcE C) 0 0 0 0 y1 y2 y3 = some r) : runE C 34 [V.int .i64 y1, V.int .i64 y2, V.int .i64 y3] = some r := ofR (F := fun s => T34 (orc C
 s.k) s.k s.m 0 0 y1 y2 y3) (fun k => e34 k k 0 0 y1 y2 y3) (by
  unfold T34
  repeat' first | with_reducible exact cC | with_reducible refine cF ?_ ?_) h

noncomputable def T36 (O : Orc) (k m q0 q1 : Nat) (y1 : Int) : Option V := need (O.R 0 34 [V.int .i64 y1, V.int .i64 0, V.int .i64 1000000000000000]) fun x1 => asTup (some x1) fun x2 => PI.asBool
 x2[0]? fun x3 => some (V.tup [V.bool x3])
theorem e36 (k m q0 q1 : Nat) (y1 : Int) : runV C (k + 1) 36 [V.int .i64 y1] = T36 (orc C k) k m q0 q1 y1 := by kernel_rfl
theorem E36 (y1 : Int) {r : V} (h : T36 (orcE C) 0 0 0 0 y1 = some r) : runE C 36 [V.int .i64 y1] = some r := ofR (F := fun s => T36 (orc C s.k) s.k s.m 0 0 y1) (fun k => e36 k k 0 0 y1) (by
  unfold T36
  repeat' first | with_reducible exact cC | with_reducible refine cN cR fun _ => ?_ | with_reducible refine cT fun _ => ?_ | with_reducible refine cB fun _ => ?_ | with_reducible refine cN cC fun _ => ?_ | with_reducible exact cR) h

noncomputable def T37 (O : Orc) (k m q0 q1 : Nat) (y1 : Int) (y2 : Int) (y3 : Int) (y4 : Int) (y5 : Nat) (y6 : List V) (y7 : Int) (y8 : Bool) : Option V := need (O.R 0 56 [V.int .i64 y1]) fun x1 =>
 asTup (some x1) fun x2 => PI.asBool x2[0]? fun x3 => bif !x3 then some (V.tup [V.int .i64 1]) else need (O.R 0 57 [V.int .i64 y2, V.int .i64 0, V.int .i64 1000000000000000]) fun x4 => asTup (some x4)
 fun x5 => PI.asBool x5[0]? fun x6 => bif !x6 then some (V.tup [V.int .i64 3]) else need (O.R 0 57 [V.int .i64 y3, V.int .i64 0, V.int .i64 1000000000000000]) fun x7 => asTup (some x7) fun x8 =>
 PI.asBool x8[0]? fun x9 => bif !x9 then some (V.tup [V.int .i64 3]) else need (O.R 0 57 [V.int .i64 y7, V.int .i64 0, V.int .i64 1000000000000000]) fun x10 => asTup (some x10) fun x11 => PI.asBool
 x11[0]? fun x12 => bif !x12 then some (V.tup [V.int .i64 3]) else need (O.R 0 57 [V.int .i64 y4, V.int .i64 1, V.int .i64 1000001]) fun x13 => asTup (some x13) fun x14 => PI.asBool x14[0]? fun x15 =>
 bif !x15 then some (V.tup [V.int .i64 3]) else bif decide ((↑y5 : Int) > 60) then some (V.tup [V.int .i64 2]) else O.L 0 37 0 [true, true, true, true, false, true] [] k [(1, V.ptr 0 0), (3, V.int .i64
 0)] [Ob.box 26 [V.int .i64 y1, V.int .i64 y2, V.int .i64 y3, V.int .i64 y4, V.sl y5 y6, V.int .i64 y7, V.bool y8] false]
theorem e37 (k m q0 q1 : Nat) (y1 : Int) (y2 : Int) (y3 : Int) (y4 : Int) (y5 : Nat) (y6 : List V) (y7 : Int) (y8 : Bool) : runV C (k + 1) 37 [V.agg [V.int .i64 y1, V.int .i64 y2, V.int .i64 y3, V.int
 .i64 y4, V.sl y5 y6, V.int .i64 y7, V.bool y8]] = T37 (orc C k) k m q0 q1 y1 y2 y3 y4 y5 y6 y7 y8 := by kernel_rfl
theorem E37 (y1 : Int) (y2 : Int) (y3 : Int) (y4 : Int) (y5 : Nat) (y6 : List V) (y7 : Int) (y8 : Bool) {r : V} (h : T37 (orcE C) 0 0 0 0 y1 y2 y3 y4 y5 y6 y7 y8 = some r) : runE C 37 [V.agg [V.int
 .i64 y1, V.int .i64 y2, V.int .i64 y3, V.int .i64 y4, V.sl y5 y6, V.int .i64 y7, V.bool y8]] = some r := ofR (F := fun s => T37 (orc C s.k) s.k s.m 0 0 y1 y2 y3 y4 y5 y6 y7 y8) (fun k => e37 k k 0 0
 y1 y2 y3 y4 y5 y6 y7 y8) (by
  unfold T37
  repeat' first | with_reducible exact cC | with_reducible refine cN cR fun _ => ?_ | with_reducible refine cT fun _ => ?_ | with_reducible refine cF ?_ ?_ | with_reducible refine cB fun _ => ?_ | with_reducible refine cN cC fun _ => ?_ | with_reducible exact cR | exact cD0 gK) h

noncomputable def T38 (O : Orc) (k m q0 q1 : Nat) (y1 : Int) (y2 : Int) (y3 : Int) (y4 : Int) (y5 : Nat) (y6 : List V) (y7 : Int) (y8 : Bool) : Option V := must (decide (y6.length = y5 * 1)) (must
 (true && (0 + y5).ble 140737488355328 && ((0 + y5) * 8).ble 140737488355328) (must (false || y6.all flatV) (some (V.tup [V.int .i64 y1, V.int .i64 y2, V.int .i64 y3, V.int .i64 y4, V.osl (0 + y5) y6,
 V.int .i64 y7, V.bool y8]))))
theorem e38 (k m q0 q1 : Nat) (y1 : Int) (y2 : Int) (y3 : Int) (y4 : Int) (y5 : Nat) (y6 : List V) (y7 : Int) (y8 : Bool) : runV C (k + 1) 38 [V.agg [V.int .i64 y1, V.int .i64 y2, V.int .i64 y3, V.int
 .i64 y4, V.sl y5 y6, V.int .i64 y7, V.bool y8]] = T38 (orc C k) k m q0 q1 y1 y2 y3 y4 y5 y6 y7 y8 := by kernel_rfl
theorem E38 (y1 : Int) (y2 : Int) (y3 : Int) (y4 : Int) (y5 : Nat) (y6 : List V) (y7 : Int) (y8 : Bool) {r : V} (h : T38 (orcE C) 0 0 0 0 y1 y2 y3 y4 y5 y6 y7 y8 = some r) : runE C 38 [V.agg [V.int
 .i64 y1, V.int .i64 y2, V.int .i64 y3, V.int .i64 y4, V.sl y5 y6, V.int .i64 y7, V.bool y8]] = some r := ofR (F := fun s => T38 (orc C s.k) s.k s.m 0 0 y1 y2 y3 y4 y5 y6 y7 y8) (fun k => e38 k k 0 0
 y1 y2 y3 y4 y5 y6 y7 y8) (by
  unfold T38
  repeat' first | with_reducible exact cC | with_reducible refine cM ?_) h

noncomputable def T39 (O : Orc) (k m q0 q1 : Nat) (y1 : Int) (y2 : ByteArray) (y3 : Int) (y4 : Int) (y5 : Int) (y6 : Int) (y7 : Int) (y8 : Bool) (y9 : Nat) (y10 : List V) : Option V := need (O.R 0 58
 [V.agg [V.int .i64 y3, V.int .i64 y6, V.int .i64 y1, V.str y2]]) fun x1 => asTup (some x1) fun x2 => PI.asInt .i64 x2[0]? fun x3 => bif x3 != 0 then must (false || y10.all flatV) (some (V.tup [V.int
 .i64 0, V.int .i64 0, V.int .i64 0, V.str { data := #[] }, V.int .i64 x3, V.int .i64 y3, V.int .i64 y4, V.int .i64 y5, V.int .i64 y6, V.osl y9 y10, V.int .i64 y7, V.bool y8])) else need (O.R 0 59
 [V.pin [V.int .i64 y3, V.int .i64 y4, V.int .i64 y5, V.int .i64 y6, V.sl y9 y10, V.int .i64 y7, V.bool y8] 0, V.bool (y3 == 1), V.int .i64 y1]) fun x4 => asTup (some x4) fun x5 => PI.asBool x5[0]? fun
 x6 => bif !x6 then must (false || y10.all flatV) (some (V.tup [V.int .i64 0, V.int .i64 0, V.int .i64 0, V.str { data := #[] }, V.int .i64 3, V.int .i64 y3, V.int .i64 y4, V.int .i64 y5, V.int .i64
 y6, V.osl y9 y10, V.int .i64 y7, V.bool y8])) else bif decide (IntKind.i64.wrap (y4 + y1) > 1000000000000000) then must (false || y10.all flatV) (some (V.tup [V.int .i64 0, V.int .i64 0, V.int .i64 0,
 V.str { data := #[] }, V.int .i64 3, V.int .i64 y3, V.int .i64 y4, V.int .i64 y5, V.int .i64 y6, V.osl y9 y10, V.int .i64 y7, V.bool y8])) else must (false || y10.all flatV) (some (V.tup [V.int .i64
 y3, V.int .i64 y6, V.int .i64 y1, V.str y2, V.int .i64 0, V.int .i64 y3, V.int .i64 (IntKind.i64.wrap (y4 + y1)), V.int .i64 y5, V.int .i64 (IntKind.i64.wrap (y6 + 1)), V.osl y9 y10, V.int .i64 y7,
 V.bool y8]))
theorem e39 (k m q0 q1 : Nat) (y1 : Int) (y2 : ByteArray) (y3 : Int) (y4 : Int) (y5 : Int) (y6 : Int) (y7 : Int) (y8 : Bool) (y9 : Nat) (y10 : List V) : runW C (k + 1) 39 [] [V.ptr 0 0, V.int .i64 y1,
 V.str y2] [Ob.box 26 [V.int .i64 y3, V.int .i64 y4, V.int .i64 y5, V.int .i64 y6, V.ref 1, V.int .i64 y7, V.bool y8] false, Ob.row 2 y9 y10 false] = T39 (orc C k) k m q0 q1 y1 y2 y3 y4 y5 y6 y7 y8 y9
 y10 := by kernel_rfl
theorem E39 (y1 : Int) (y2 : ByteArray) (y3 : Int) (y4 : Int) (y5 : Int) (y6 : Int) (y7 : Int) (y8 : Bool) (y9 : Nat) (y10 : List V) {r : V} (h : T39 (orcE C) 0 0 0 0 y1 y2 y3 y4 y5 y6 y7 y8 y9 y10 =
 some r) : runWE C 39 [] [V.ptr 0 0, V.int .i64 y1, V.str y2] [Ob.box 26 [V.int .i64 y3, V.int .i64 y4, V.int .i64 y5, V.int .i64 y6, V.ref 1, V.int .i64 y7, V.bool y8] false, Ob.row 2 y9 y10 false] =
 some r := ofW (F := fun s => T39 (orc C s.k) s.k s.m 0 0 y1 y2 y3 y4 y5 y6 y7 y8 y9 y10) (fun k => e39 k k 0 0 y1 y2 y3 y4 y5 y6 y7 y8 y9 y10) (by
  unfold T39
  repeat' first | with_reducible exact cC | with_reducible refine cN cR fun _ => ?_ | with_reducible refine cT fun _ => ?_ | with_reducible refine cI fun _ => ?_ | with_reducible refine cM ?_ | with_reducible refine cF ?_ ?_ | with_reducible refine cB fun _ => ?_ | with_reducible refine cN cC fun _ => ?_ | with_reducible exact cR) h

noncomputable def T40 (O : Orc) (k m q0 q1 : Nat) (y1 : Int) : Option V := bif y1 == 1 then some (V.tup [V.bool true]) else some (V.tup [V.bool (y1 == 2)])
theorem e40 (k m q0 q1 : Nat) (y1 : Int) : runV C (k + 1) 40 [V.int .i64 y1] = T40 (orc C k) k m q0 q1 y1 := by kernel_rfl
theorem E40 (y1 : Int) {r : V} (h : T40 (orcE C) 0 0 0 0 y1 = some r) : runE C 40 [V.int .i64 y1] = some r := ofR (F := fun s => T40 (orc C s.k) s.k s.m 0 0 y1) (fun k => e40 k k 0 0 y1) (by
  unfold T40
  repeat' first | with_reducible exact cC | with_reducible refine cF ?_ ?_) h

noncomputable def T12l1 (O : Orc) (k m q0 q1 : Nat) (y1 : Nat) (y2 : List V) (y3 : Int) (y4 : Int) (y5 : Int) (y6 : Int) (y7 : Int) (y8 : Int) (y9 : Nat) (y10 : List V) (y11 : Int) (y12 : Bool) :
 Option V := bif decide (y4 < y3) then must (inB y4 y1) (PI.asInt .i64 y2[y4.toNat * 1]? fun x1 => need (O.R 0 41 [V.int .i64 x1]) fun x2 => asTup (some x2) fun x3 => PI.asBool x3[0]? fun x4 => bif !x4
 then some (V.tup [V.int .i64 1]) else bif decide (y4 > 0) then must (inB (IntKind.i64.wrap (y4 - 1)) y9) (PI.asInt .i64 y10[(IntKind.i64.wrap (y4 - 1)).toNat * 1]? fun x5 => bif decide (x5 ≥ x1) then
 some (V.tup [V.int .i64 1]) else O.L 0 12 1 [true, true, false, true] [] m [(1, V.ptr 0 0), (39, V.sl y1 y2), (40, V.int .i64 y3), (41, V.int .i64 (IntKind.i64.wrap (y4 + 1)))] [Ob.box 26 [V.int .i64
 y5, V.int .i64 y6, V.int .i64 y7, V.int .i64 y8, V.sl y9 y10, V.int .i64 y11, V.bool y12] false]) else O.L 0 12 1 [true, true, false, true] [] m [(1, V.ptr 0 0), (39, V.sl y1 y2), (40, V.int .i64 y3),
 (41, V.int .i64 (IntKind.i64.wrap (y4 + 1)))] [Ob.box 26 [V.int .i64 y5, V.int .i64 y6, V.int .i64 y7, V.int .i64 y8, V.sl y9 y10, V.int .i64 y11, V.bool y12] false]) else need (O.R 0 35 [V.agg [V.int
 .i64 y5, V.int .i64 y6, V.int .i64 y7, V.int .i64 y8, V.sl y9 y10, V.int .i64 y11, V.bool y12]]) fun x6 => asTup (some x6) fun x7 => PI.asInt .i64 x7[0]? fun x8 => need (O.R 0 34 [V.int .i64 x8, V.int
 .i64 0, V.int .i64 y11]) fun x9 => asTup (some x9) fun x10 => PI.asBool x10[0]? fun x11 => bif !x11 then some (V.tup [V.int .i64 1]) else some (V.tup [V.int .i64 0])
theorem e12l1 (k m q0 q1 : Nat) (y1 : Nat) (y2 : List V) (y3 : Int) (y4 : Int) (y5 : Int) (y6 : Int) (y7 : Int) (y8 : Int) (y9 : Nat) (y10 : List V) (y11 : Int) (y12 : Bool) : runL C k 12 1 [true,
 true, false, true] [] (m + 1) [(1, V.ptr 0 0), (39, V.sl y1 y2), (40, V.int .i64 y3), (41, V.int .i64 y4)] [Ob.box 26 [V.int .i64 y5, V.int .i64 y6, V.int .i64 y7, V.int .i64 y8, V.sl y9 y10, V.int
 .i64 y11, V.bool y12] false] = T12l1 (orc C k) k m q0 q1 y1 y2 y3 y4 y5 y6 y7 y8 y9 y10 y11 y12 := by kernel_rfl
theorem E12l1 (y1 : Nat) (y2 : List V) (y3 : Int) (y4 : Int) (y5 : Int) (y6 : Int) (y7 : Int) (y8 : Int) (y9 : Nat) (y10 : List V) (y11 : Int) (y12 : Bool) {r : V} (h : T12l1 (orcE C) 0 0 0 0 y1 y2 y3
 y4 y5 y6 y7 y8 y9 y10 y11 y12 = some r) : loopE C 12 1 [true, true, false, true] [] [(1, V.ptr 0 0), (39, V.sl y1 y2), (40, V.int .i64 y3), (41, V.int .i64 y4)] [Ob.box 26 [V.int .i64 y5, V.int .i64
 y6, V.int .i64 y7, V.int .i64 y8, V.sl y9 y10, V.int .i64 y11, V.bool y12] false] = some r := ofL (j := 0) (F := fun s => T12l1 (orc C s.k) s.k s.m 0 0 y1 y2 y3 y4 y5 y6 y7 y8 y9 y10 y11 y12) (fs0 fun
 k m => e12l1 k m 0 0 y1 y2 y3 y4 y5 y6 y7 y8 y9 y10 y11 y12) (by
  unfold T12l1
  repeat' first | with_reducible exact cC | with_reducible refine cN cR fun _ => ?_ | with_reducible refine cT fun _ => ?_ | with_reducible refine cI fun _ => ?_ | with_reducible refine cM ?_ | with_reducible refine cF ?_ ?_ | with_reducible refine cB fun _ => ?_ | with_reducible refine cN cC fun _ => ?_ | with_reducible exact cR | exact cD0 gM) h

noncomputable def T52 (O : Orc) (k m q0 q1 : Nat) (y1 : Int) (y2 : Nat) (y3 : List V) (y4 : Int) : Option V := bif decide (y1 < 1) then some (V.tup [V.int .i64 0, V.sl y2 y3, V.int .i64
 (IntKind.i64.wrap (y4 + 1))]) else bif (↑y2 : Int) == 0 then must (!decide (y1 = 0)) (some (V.tup [V.int .i64 ((IntKind.i64.wrap (IntKind.i64.wrap (IntKind.i64.wrap (y4 + 1) - 1) * 7)).tmod y1), V.sl
 y2 y3, V.int .i64 (IntKind.i64.wrap (y4 + 1))])) else must (!decide ((↑y2 : Int) = 0)) (must (inB ((IntKind.i64.wrap (IntKind.i64.wrap (y4 + 1) - 1)).tmod (↑y2 : Int)) y2) (PI.asInt .u8
 y3[((IntKind.i64.wrap (IntKind.i64.wrap (y4 + 1) - 1)).tmod (↑y2 : Int)).toNat * 1]? fun x1 => must (!decide ((↑y2 : Int) = 0)) (bif decide (y1 > 200) then must (!decide ((↑y2 : Int) = 0)) (must (inB
 ((IntKind.i64.wrap (IntKind.i64.wrap (IntKind.i64.wrap (y4 + 1) - 1) + 1)).tmod (↑y2 : Int)) y2) (PI.asInt .u8 y3[((IntKind.i64.wrap (IntKind.i64.wrap (IntKind.i64.wrap (y4 + 1) - 1) + 1)).tmod (↑y2 :
 Int)).toNat * 1]? fun x2 => must (!decide (y1 = 0)) (some (V.tup [V.int .i64 ((IntKind.i64.wrap (IntKind.i64.wrap (IntKind.i64.wrap (IntKind.i64.wrap (IntKind.i64.wrap x1 + IntKind.i64.wrap
 (IntKind.i64.wrap ((IntKind.i64.wrap (IntKind.i64.wrap (y4 + 1) - 1)).tdiv (↑y2 : Int)) * 37)) * 251) + IntKind.i64.wrap (IntKind.i64.wrap x2 * 13)) + IntKind.i64.wrap (IntKind.i64.wrap (y4 + 1) -
 1))).tmod y1), V.sl y2 y3, V.int .i64 (IntKind.i64.wrap (y4 + 1))])))) else must (!decide (y1 = 0)) (some (V.tup [V.int .i64 ((IntKind.i64.wrap (IntKind.i64.wrap x1 + IntKind.i64.wrap
 (IntKind.i64.wrap ((IntKind.i64.wrap (IntKind.i64.wrap (y4 + 1) - 1)).tdiv (↑y2 : Int)) * 37))).tmod y1), V.sl y2 y3, V.int .i64 (IntKind.i64.wrap (y4 + 1))])))))
theorem e52 (k m q0 q1 : Nat) (y1 : Int) (y2 : Nat) (y3 : List V) (y4 : Int) : runW C (k + 1) 52 [] [V.ptr 0 0, V.int .i64 y1] [Ob.box 80 [V.sl y2 y3, V.int .i64 y4] false] = T52 (orc C k) k m q0 q1 y1
 y2 y3 y4 := by kernel_rfl
theorem E52 (y1 : Int) (y2 : Nat) (y3 : List V) (y4 : Int) {r : V} (h : T52 (orcE C) 0 0 0 0 y1 y2 y3 y4 = some r) : runWE C 52 [] [V.ptr 0 0, V.int .i64 y1] [Ob.box 80 [V.sl y2 y3, V.int .i64 y4]
 false] = some r := ofW (F := fun s => T52 (orc C s.k) s.k s.m 0 0 y1 y2 y3 y4) (fun k => e52 k k 0 0 y1 y2 y3 y4) (by
  unfold T52
  repeat' first | with_reducible exact cC | with_reducible refine cI fun _ => ?_ | with_reducible refine cM ?_ | with_reducible refine cF ?_ ?_) h

noncomputable def T28l1 (O : Orc) (k m q0 q1 : Nat) (y1 : Int) (y2 : Nat) (y3 : List V) (y4 : Int) (y5 : Int) (y6 : Int) (y7 : Int) (y8 : Int) (y9 : Int) (y10 : Bool) (y11 : Nat) (y12 : List V) (y13 :
 Int) (y14 : Int) (y15 : Int) (y16 : Int) (y17 : Int) (y18 : Bool) (y19 : Nat) (y20 : List V) : Option V := bif decide (y1 < 7) then need (O.W 0 48 [] [V.ptr 0 0, V.int .i64 3] [Ob.box 80 [V.sl y2 y3,
 V.int .i64 y4] false]) fun x1 => asTup (some x1) fun x2 => PI.asBool x2[0]? fun x3 => asSl x2[1]? fun x4 x5 => PI.asInt .i64 x2[2]? fun x6 => bif x3 then must (true && (y19 + 1).ble 140737488355328 &&
 ((y19 + 1) * 8).ble 140737488355328) (O.X 0 28 [] [Ob.box 80 [V.u, V.u] false] 0 [true, true, true, true, true, true, true, false, true] [] m [(0, V.ptr 0 0), (2, V.ptr 1 0), (3, V.ptr 3 0), (6, V.int
 .i64 (IntKind.i64.wrap (y1 + 1)))] [Ob.box 80 [V.sl x4 x5, V.int .i64 x6] false, Ob.box 26 [V.int .i64 y5, V.int .i64 y6, V.int .i64 y7, V.int .i64 y8, V.ref 2, V.int .i64 y9, V.bool y10] false,
 Ob.row 2 y11 y12 false, Ob.box 26 [V.int .i64 y13, V.int .i64 y14, V.int .i64 y15, V.int .i64 y16, V.ref 4, V.int .i64 y17, V.bool y18] false, Ob.row 2 (y19 + 1) (y20 ++ [V.int .i64 y1]) false]) else
 O.X 0 28 [] [Ob.box 80 [V.u, V.u] false] 0 [true, true, true, true, true, true, true, false, true] [] m [(0, V.ptr 0 0), (2, V.ptr 1 0), (3, V.ptr 3 0), (6, V.int .i64 (IntKind.i64.wrap (y1 + 1)))]
 [Ob.box 80 [V.sl x4 x5, V.int .i64 x6] false, Ob.box 26 [V.int .i64 y5, V.int .i64 y6, V.int .i64 y7, V.int .i64 y8, V.ref 2, V.int .i64 y9, V.bool y10] false, Ob.row 2 y11 y12 false, Ob.box 26 [V.int
 .i64 y13, V.int .i64 y14, V.int .i64 y15, V.int .i64 y16, V.ref 4, V.int .i64 y17, V.bool y18] false, Ob.row 2 y19 y20 false] else need (O.W 0 48 [] [V.ptr 0 0, V.int .i64 8] [Ob.box 80 [V.sl y2 y3,
 V.int .i64 y4] false]) fun x7 => asTup (some x7) fun x8 => PI.asBool x8[0]? fun x9 => asSl x8[1]? fun x10 x11 => PI.asInt .i64 x8[2]? fun x12 => need (O.W 0 52 [] [V.ptr 0 0, V.int .i64 24] [Ob.box 80
 [V.sl x10 x11, V.int .i64 x12] false]) fun x13 => asTup (some x13) fun x14 => PI.asInt .i64 x14[0]? fun x15 => asSl x14[1]? fun x16 x17 => PI.asInt .i64 x14[2]? fun x18 => bif x15 == 0 then need (O.W
 0 30 [] [V.ptr 0 0, V.sl 2 [V.int .i64 0, V.int .i64 3]] [Ob.box 80 [V.sl x16 x17, V.int .i64 x18] false]) fun x19 => asTup (some x19) fun x20 => PI.asInt .i64 x20[0]? fun x21 => asSl x20[1]? fun x22
 x23 => PI.asInt .i64 x20[2]? fun x24 => some (V.tup [V.int .i64 x21, V.int .i64 y14, V.int .i64 y15, V.int .i64 y16, V.sl y19 y20, V.int .i64 y17, V.bool x9, V.sl x22 x23, V.int .i64 x24]) else bif
 x15 == 1 then need (O.W 0 30 [] [V.ptr 0 0, V.sl 3 [V.int .i64 (-1), V.int .i64 1000000000000001, V.int .i64 1000000000000000]] [Ob.box 80 [V.sl x16 x17, V.int .i64 x18] false]) fun x25 => asTup (some
 x25) fun x26 => PI.asInt .i64 x26[0]? fun x27 => asSl x26[1]? fun x28 x29 => PI.asInt .i64 x26[2]? fun x30 => some (V.tup [V.int .i64 y13, V.int .i64 x27, V.int .i64 y15, V.int .i64 y16, V.sl y19 y20,
 V.int .i64 y17, V.bool x9, V.sl x28 x29, V.int .i64 x30]) else bif x15 == 2 then need (O.W 0 30 [] [V.ptr 0 0, V.sl 3 [V.int .i64 (-1), V.int .i64 1000000000000001, V.int .i64 61]] [Ob.box 80 [V.sl
 x16 x17, V.int .i64 x18] false]) fun x31 => asTup (some x31) fun x32 => PI.asInt .i64 x32[0]? fun x33 => asSl x32[1]? fun x34 x35 => PI.asInt .i64 x32[2]? fun x36 => some (V.tup [V.int .i64 y13, V.int
 .i64 y14, V.int .i64 x33, V.int .i64 y16, V.sl y19 y20, V.int .i64 y17, V.bool x9, V.sl x34 x35, V.int .i64 x36]) else bif x15 == 3 then need (O.W 0 30 [] [V.ptr 0 0, V.sl 3 [V.int .i64 (-1), V.int
 .i64 0, V.int .i64 1000000000000001]] [Ob.box 80 [V.sl x16 x17, V.int .i64 x18] false]) fun x37 => asTup (some x37) fun x38 => PI.asInt .i64 x38[0]? fun x39 => asSl x38[1]? fun x40 x41 => PI.asInt
 .i64 x38[2]? fun x42 => some (V.tup [V.int .i64 y13, V.int .i64 y14, V.int .i64 y15, V.int .i64 y16, V.sl y19 y20, V.int .i64 x39, V.bool x9, V.sl x40 x41, V.int .i64 x42]) else bif x15 == 4 then need
 (O.W 0 30 [] [V.ptr 0 0, V.sl 4 [V.int .i64 0, V.int .i64 1000001, V.int .i64 1000002, V.int .i64 1000000]] [Ob.box 80 [V.sl x16 x17, V.int .i64 x18] false]) fun x43 => asTup (some x43) fun x44 =>
 PI.asInt .i64 x44[0]? fun x45 => asSl x44[1]? fun x46 x47 => PI.asInt .i64 x44[2]? fun x48 => some (V.tup [V.int .i64 y13, V.int .i64 y14, V.int .i64 y15, V.int .i64 x45, V.sl y19 y20, V.int .i64 y17,
 V.bool x9, V.sl x46 x47, V.int .i64 x48]) else bif x15 == 5 then need (O.W 0 30 [] [V.ptr 0 0, V.sl 4 [V.int .i64 1, V.int .i64 0, V.int .i64 1000001, V.int .i64 1000000]] [Ob.box 80 [V.sl x16 x17,
 V.int .i64 x18] false]) fun x49 => asTup (some x49) fun x50 => PI.asInt .i64 x50[0]? fun x51 => asSl x50[1]? fun x52 x53 => PI.asInt .i64 x50[2]? fun x54 => must (true && (y19 + 1).ble 140737488355328
 && ((y19 + 1) * 8).ble 140737488355328) (some (V.tup [V.int .i64 y13, V.int .i64 y14, V.int .i64 y15, V.int .i64 y16, V.sl (y19 + 1) (y20 ++ [V.int .i64 x51]), V.int .i64 y17, V.bool x9, V.sl x52 x53,
 V.int .i64 x54])) else bif x15 == 6 then O.X 0 28 [] [Ob.box 80 [V.u, V.u] false] 3 [true, true, true, true, true, true, true, true, true, false, true, false, true, true, true, true, true, true, true,
 true, true, true, true, true, true, false, true, true] [] k [(0, V.ptr 0 0), (2, V.ptr 1 0), (3, V.ptr 3 0), (7, V.int .i64 0)] [Ob.box 80 [V.sl x16 x17, V.int .i64 x18] false, Ob.box 26 [V.int .i64
 y5, V.int .i64 y6, V.int .i64 y7, V.int .i64 y8, V.ref 2, V.int .i64 y9, V.bool y10] false, Ob.row 2 y11 y12 false, Ob.box 26 [V.int .i64 y13, V.int .i64 y14, V.int .i64 y15, V.int .i64 y16, V.ref 4,
 V.int .i64 y17, V.bool x9] false, Ob.row 2 0 [] false] else some (V.tup [V.int .i64 y13, V.int .i64 y14, V.int .i64 y15, V.int .i64 y16, V.sl y19 y20, V.int .i64 y17, V.bool x9, V.sl x16 x17, V.int
 .i64 x18])
theorem e28l1 (k m q0 q1 : Nat) (y1 : Int) (y2 : Nat) (y3 : List V) (y4 : Int) (y5 : Int) (y6 : Int) (y7 : Int) (y8 : Int) (y9 : Int) (y10 : Bool) (y11 : Nat) (y12 : List V) (y13 : Int) (y14 : Int)
 (y15 : Int) (y16 : Int) (y17 : Int) (y18 : Bool) (y19 : Nat) (y20 : List V) : runLW C k 28 [] [Ob.box 80 [V.u, V.u] false] 0 [true, true, true, true, true, true, true, false, true] [] (m + 1) [(0,
 V.ptr 0 0), (2, V.ptr 1 0), (3, V.ptr 3 0), (6, V.int .i64 y1)] [Ob.box 80 [V.sl y2 y3, V.int .i64 y4] false, Ob.box 26 [V.int .i64 y5, V.int .i64 y6, V.int .i64 y7, V.int .i64 y8, V.ref 2, V.int .i64
 y9, V.bool y10] false, Ob.row 2 y11 y12 false, Ob.box 26 [V.int .i64 y13, V.int .i64 y14, V.int .i64 y15, V.int .i64 y16, V.ref 4, V.int .i64 y17, V.bool y18] false, Ob.row 2 y19 y20 false] = T28l1
 (orc C k) k m q0 q1 y1 y2 y3 y4 y5 y6 y7 y8 y9 y10 y11 y12 y13 y14 y15 y16 y17 y18 y19 y20 := by kernel_rfl
theorem E28l1 (y1 : Int) (y2 : Nat) (y3 : List V) (y4 : Int) (y5 : Int) (y6 : Int) (y7 : Int) (y8 : Int) (y9 : Int) (y10 : Bool) (y11 : Nat) (y12 : List V) (y13 : Int) (y14 : Int) (y15 : Int) (y16 :
 Int) (y17 : Int) (y18 : Bool) (y19 : Nat) (y20 : List V) {r : V} (h : T28l1 (orcE C) 0 0 0 0 y1 y2 y3 y4 y5 y6 y7 y8 y9 y10 y11 y12 y13 y14 y15 y16 y17 y18 y19 y20 = some r) : loopWE C 28 [] [Ob.box
 80 [V.u, V.u] false] 0 [true, true, true, true, true, true, true, false, true] [] [(0, V.ptr 0 0), (2, V.ptr 1 0), (3, V.ptr 3 0), (6, V.int .i64 y1)] [Ob.box 80 [V.sl y2 y3, V.int .i64 y4] false,
 Ob.box 26 [V.int .i64 y5, V.int .i64 y6, V.int .i64 y7, V.int .i64 y8, V.ref 2, V.int .i64 y9, V.bool y10] false, Ob.row 2 y11 y12 false, Ob.box 26 [V.int .i64 y13, V.int .i64 y14, V.int .i64 y15,
 V.int .i64 y16, V.ref 4, V.int .i64 y17, V.bool y18] false, Ob.row 2 y19 y20 false] = some r := ofX (j := 0) (F := fun s => T28l1 (orc C s.k) s.k s.m 0 0 y1 y2 y3 y4 y5 y6 y7 y8 y9 y10 y11 y12 y13 y14
 y15 y16 y17 y18 y19 y20) (fs0 fun k m => e28l1 k m 0 0 y1 y2 y3 y4 y5 y6 y7 y8 y9 y10 y11 y12 y13 y14 y15 y16 y17 y18 y19 y20) (by
  unfold T28l1
  repeat' first | with_reducible exact cC | with_reducible refine cN cQ fun _ => ?_ | with_reducible refine cT fun _ => ?_ | with_reducible refine cI fun _ => ?_ | with_reducible refine cM ?_ | with_reducible refine cF ?_ ?_ | with_reducible refine cB fun _ => ?_ | with_reducible refine cL fun _ _ => ?_ | with_reducible refine cN cC fun _ => ?_ | with_reducible exact cQ | exact cX0 gK | exact cX0 gM) h

noncomputable def T53 (O : Orc) (k m q0 q1 : Nat) (y1 : Nat) (y2 : List V) (y3 : Int) : Option V := need (O.W 0 52 [] [V.ptr 0 0, V.int .i64 4] [Ob.box 80 [V.sl y1 y2, V.int .i64 y3] false]) fun x1 =>
 asTup (some x1) fun x2 => PI.asInt .i64 x2[0]? fun x3 => asSl x2[1]? fun x4 x5 => PI.asInt .i64 x2[2]? fun x6 => must (inB x3 4) (asStr [V.str { data := #[OfNat.ofNat 97, OfNat.ofNat 110, OfNat.ofNat
 110] }, V.str { data := #[OfNat.ofNat 98, OfNat.ofNat 111, OfNat.ofNat 98] }, V.str { data := #[OfNat.ofNat 99, OfNat.ofNat 51] }, V.str { data := #[OfNat.ofNat 122] }][x3.toNat * 1]? fun x7 => some
 (V.tup [V.str x7, V.sl x4 x5, V.int .i64 x6]))
theorem e53 (k m q0 q1 : Nat) (y1 : Nat) (y2 : List V) (y3 : Int) : runW C (k + 1) 53 [] [V.ptr 0 0] [Ob.box 80 [V.sl y1 y2, V.int .i64 y3] false] = T53 (orc C k) k m q0 q1 y1 y2 y3 := by kernel_rfl
theorem E53 (y1 : Nat) (y2 : List V) (y3 : Int) {r : V} (h : T53 (orcE C) 0 0 0 0 y1 y2 y3 = some r) : runWE C 53 [] [V.ptr 0 0] [Ob.box 80 [V.sl y1 y2, V.int .i64 y3] false] = some r := ofW (F := fun
 s => T53 (orc C s.k) s.k s.m 0 0 y1 y2 y3) (fun k => e53 k k 0 0 y1 y2 y3) (by
  unfold T53
  repeat' first | with_reducible exact cC | with_reducible refine cN cQ fun _ => ?_ | with_reducible refine cT fun _ => ?_ | with_reducible refine cI fun _ => ?_ | with_reducible refine cM ?_ | with_reducible refine cS fun _ => ?_ | with_reducible refine cL fun _ _ => ?_ | with_reducible refine cN cC fun _ => ?_ | with_reducible exact cQ) h

noncomputable def T41 (O : Orc) (k m q0 q1 : Nat) (y1 : Int) : Option V := need (O.R 0 34 [V.int .i64 y1, V.int .i64 1, V.int .i64 1000000]) fun x1 => asTup (some x1) fun x2 => PI.asBool x2[0]? fun x3
 => some (V.tup [V.bool x3])
theorem e41 (k m q0 q1 : Nat) (y1 : Int) : runV C (k + 1) 41 [V.int .i64 y1] = T41 (orc C k) k m q0 q1 y1 := by kernel_rfl
theorem E41 (y1 : Int) {r : V} (h : T41 (orcE C) 0 0 0 0 y1 = some r) : runE C 41 [V.int .i64 y1] = some r := ofR (F := fun s => T41 (orc C s.k) s.k s.m 0 0 y1) (fun k => e41 k k 0 0 y1) (by
  unfold T41
  repeat' first | with_reducible exact cC | with_reducible refine cN cR fun _ => ?_ | with_reducible refine cT fun _ => ?_ | with_reducible refine cB fun _ => ?_ | with_reducible refine cN cC fun _ => ?_ | with_reducible exact cR) h

noncomputable def T55 (O : Orc) (k m q0 q1 : Nat) (y1 : Nat) (y2 : List V) : Option V := bif y1.beq (OfNat.ofNat 0) then both (some (V.tup [V.osl 0 []])) (must (decide (y2.length = y1 * 1)) (must (true
 && (0 + y1).ble 140737488355328 && ((0 + y1) * 8).ble 140737488355328) (must (false || y2.all flatV) (some (V.tup [V.osl (0 + y1) y2]))))) else must (decide (y2.length = y1 * 1)) (must (true && (0 +
 y1).ble 140737488355328 && ((0 + y1) * 8).ble 140737488355328) (must (false || y2.all flatV) (some (V.tup [V.osl (0 + y1) y2]))))
theorem e55 (k m q0 q1 : Nat) (y1 : Nat) (y2 : List V) : runV C (k + 1) 55 [V.sl y1 y2] = T55 (orc C k) k m q0 q1 y1 y2 := by kernel_rfl
theorem E55 (y1 : Nat) (y2 : List V) {r : V} (h : T55 (orcE C) 0 0 0 0 y1 y2 = some r) : runE C 55 [V.sl y1 y2] = some r := ofR (F := fun s => T55 (orc C s.k) s.k s.m 0 0 y1 y2) (fun k => e55 k k 0 0
 y1 y2) (by
  unfold T55
  repeat' first | with_reducible exact cC | with_reducible refine cM ?_ | with_reducible refine cF ?_ ?_ | with_reducible refine cW ?_ ?_) h

noncomputable def T56 (O : Orc) (k m q0 q1 : Nat) (y1 : Int) : Option V := bif y1 == 1 then some (V.tup [V.bool true]) else some (V.tup [V.bool (y1 == 2)])
theorem e56 (k m q0 q1 : Nat) (y1 : Int) : runV C (k + 1) 56 [V.int .i64 y1] = T56 (orc C k) k m q0 q1 y1 := by kernel_rfl
theorem E56 (y1 : Int) {r : V} (h : T56 (orcE C) 0 0 0 0 y1 = some r) : runE C 56 [V.int .i64 y1] = some r := ofR (F := fun s => T56 (orc C s.k) s.k s.m 0 0 y1) (fun k => e56 k k 0 0 y1) (by
  unfold T56
  repeat' first | with_reducible exact cC | with_reducible refine cF ?_ ?_) h

noncomputable def T57 (O : Orc) (k m q0 q1 : Nat) (y1 : Int) (y2 : Int) (y3 : Int) : Option V := bif decide (y1 ≥ y2) then some (V.tup [V.bool (decide (y1 ≤ y3))]) else some (V.tup [V.bool false])
theorem e57 (k m q0 q1 : Nat) (y1 : Int) (y2 : Int) (y3 : Int) : runV C (k + 1) 57 [V.int .i64 y1, V.int .i64 y2, V.int .i64 y3] = T57 (orc C k) k m q0 q1 y1 y2 y3 := by kernel_rfl
theorem E57 (y1 : Int) (y2 : Int) (y3 : Int) {r : V} (h : T57 (orcE C) 0 0 0 0 y1 y2 y3 = some r) : runE C 57 [V.int .i64 y1, V.int .i64 y2, V.int .i64 y3] = some r := ofR (F := fun s => T57 (orc C
 s.k) s.k s.m 0 0 y1 y2 y3) (fun k => e57 k k 0 0 y1 y2 y3) (by
  unfold T57
  repeat' first | with_reducible exact cC | with_reducible refine cF ?_ ?_) h

noncomputable def T37l1 (O : Orc) (k m q0 q1 : Nat) (y1 : Int) (y2 : Int) (y3 : Int) (y4 : Int) (y5 : Int) (y6 : Nat) (y7 : List V) (y8 : Int) (y9 : Bool) : Option V := bif decide (y1 < (↑y6 : Int))
 then must (inB y1 y6) (PI.asInt .i64 y7[y1.toNat * 1]? fun x1 => need (O.R 0 57 [V.int .i64 x1, V.int .i64 1, V.int .i64 1000000]) fun x2 => asTup (some x2) fun x3 => PI.asBool x3[0]? fun x4 => bif
 !x4 then both (some (V.tup [V.int .i64 1])) (some (V.tup [V.int .i64 1])) else bif decide (y1 > 0) then must (inB y1 y6) (must (inB (IntKind.i64.wrap (y1 - 1)) y6) (both (PI.asInt .i64 y7[y1.toNat *
 1]? fun x5 => PI.asInt .i64 y7[(IntKind.i64.wrap (y1 - 1)).toNat * 1]? fun x6 => bif decide (x5 ≤ x6) then some (V.tup [V.int .i64 1]) else O.L 0 37 0 [true, true, true, true, false, true] [] m [(1,
 V.ptr 0 0), (3, V.int .i64 (IntKind.i64.wrap (y1 + 1)))] [Ob.box 26 [V.int .i64 y2, V.int .i64 y3, V.int .i64 y4, V.int .i64 y5, V.sl y6 y7, V.int .i64 y8, V.bool y9] false]) (PI.asInt .i64
 y7[(IntKind.i64.wrap (y1 - 1)).toNat * 1]? fun x7 => PI.asInt .i64 y7[y1.toNat * 1]? fun x8 => bif decide (x8 ≤ x7) then some (V.tup [V.int .i64 1]) else O.L 0 37 0 [true, true, true, true, false,
 true] [] m [(1, V.ptr 0 0), (3, V.int .i64 (IntKind.i64.wrap (y1 + 1)))] [Ob.box 26 [V.int .i64 y2, V.int .i64 y3, V.int .i64 y4, V.int .i64 y5, V.sl y6 y7, V.int .i64 y8, V.bool y9] false]))) else
 both (O.L 0 37 0 [true, true, true, true, false, true] [] m [(1, V.ptr 0 0), (3, V.int .i64 (IntKind.i64.wrap (y1 + 1)))] [Ob.box 26 [V.int .i64 y2, V.int .i64 y3, V.int .i64 y4, V.int .i64 y5, V.sl
 y6 y7, V.int .i64 y8, V.bool y9] false]) (O.L 0 37 0 [true, true, true, true, false, true] [] m [(1, V.ptr 0 0), (3, V.int .i64 (IntKind.i64.wrap (y1 + 1)))] [Ob.box 26 [V.int .i64 y2, V.int .i64 y3,
 V.int .i64 y4, V.int .i64 y5, V.sl y6 y7, V.int .i64 y8, V.bool y9] false])) else need (O.R 0 31 [V.pin [V.int .i64 y2, V.int .i64 y3, V.int .i64 y4, V.int .i64 y5, V.sl y6 y7, V.int .i64 y8, V.bool
 y9] 0]) fun x9 => asTup (some x9) fun x10 => PI.asInt .i64 x10[0]? fun x11 => need (O.R 0 57 [V.int .i64 x11, V.int .i64 0, V.int .i64 y8]) fun x12 => asTup (some x12) fun x13 => PI.asBool x13[0]? fun
 x14 => bif !x14 then some (V.tup [V.int .i64 1]) else some (V.tup [V.int .i64 0])
theorem e37l1 (k m q0 q1 : Nat) (y1 : Int) (y2 : Int) (y3 : Int) (y4 : Int) (y5 : Int) (y6 : Nat) (y7 : List V) (y8 : Int) (y9 : Bool) : runL C k 37 0 [true, true, true, true, false, true] [] (m + 1)
 [(1, V.ptr 0 0), (3, V.int .i64 y1)] [Ob.box 26 [V.int .i64 y2, V.int .i64 y3, V.int .i64 y4, V.int .i64 y5, V.sl y6 y7, V.int .i64 y8, V.bool y9] false] = T37l1 (orc C k) k m q0 q1 y1 y2 y3 y4 y5 y6
 y7 y8 y9 := by kernel_rfl
theorem E37l1 (y1 : Int) (y2 : Int) (y3 : Int) (y4 : Int) (y5 : Int) (y6 : Nat) (y7 : List V) (y8 : Int) (y9 : Bool) {r : V} (h : T37l1 (orcE C) 0 0 0 0 y1 y2 y3 y4 y5 y6 y7 y8 y9 = some r) : loopE C
 37 0 [true, true, true, true, false, true] [] [(1, V.ptr 0 0), (3, V.int .i64 y1)] [Ob.box 26 [V.int .i64 y2, V.int .i64 y3, V.int .i64 y4, V.int .i64 y5, V.sl y6 y7, V.int .i64 y8, V.bool y9] false]
 = some r := ofL (j := 0) (F := fun s => T37l1 (orc C s.k) s.k s.m 0 0 y1 y2 y3 y4 y5 y6 y7 y8 y9) (fs0 fun k m => e37l1 k m 0 0 y1 y2 y3 y4 y5 y6 y7 y8 y9) (by
  unfold T37l1
  repeat' first | with_reducible exact cC | with_reducible refine cN cR fun _ => ?_ | with_reducible refine cT fun _ => ?_ | with_reducible refine cI fun _ => ?_ | with_reducible refine cM ?_ | with_reducible refine cF ?_ ?_ | with_reducible refine cB fun _ => ?_ | with_reducible refine cN cC fun _ => ?_ | with_reducible refine cW ?_ ?_ | with_reducible exact cR | exact cD0 gM) h

noncomputable def T58 (O : Orc) (k m q0 q1 : Nat) (y1 : Int) (y2 : Int) (y3 : Int) (y4 : ByteArray) : Option V := need (O.R 0 56 [V.int .i64 y1]) fun x1 => asTup (some x1) fun x2 => PI.asBool x2[0]?
 fun x3 => bif !x3 then some (V.tup [V.int .i64 1]) else need (O.R 0 57 [V.int .i64 y2, V.int .i64 1, V.int .i64 1000000]) fun x4 => asTup (some x4) fun x5 => PI.asBool x5[0]? fun x6 => bif !x6 then
 some (V.tup [V.int .i64 3]) else need (O.R 0 57 [V.int .i64 y3, V.int .i64 1, V.int .i64 1000000000]) fun x7 => asTup (some x7) fun x8 => PI.asBool x8[0]? fun x9 => bif !x9 then some (V.tup [V.int
 .i64 3]) else bif decide ((↑y4.size : Int) < 1) then some (V.tup [V.int .i64 5]) else bif decide ((↑y4.size : Int) > 12) then some (V.tup [V.int .i64 5]) else O.L 0 58 0 [true, true, true, true,
 false, true] [] k [(1, V.ptr 0 0), (3, V.int .i64 0)] [Ob.box 30 [V.int .i64 y1, V.int .i64 y2, V.int .i64 y3, V.str y4] false]
theorem e58 (k m q0 q1 : Nat) (y1 : Int) (y2 : Int) (y3 : Int) (y4 : ByteArray) : runV C (k + 1) 58 [V.agg [V.int .i64 y1, V.int .i64 y2, V.int .i64 y3, V.str y4]] = T58 (orc C k) k m q0 q1 y1 y2 y3 y4
 := by kernel_rfl
theorem E58 (y1 : Int) (y2 : Int) (y3 : Int) (y4 : ByteArray) {r : V} (h : T58 (orcE C) 0 0 0 0 y1 y2 y3 y4 = some r) : runE C 58 [V.agg [V.int .i64 y1, V.int .i64 y2, V.int .i64 y3, V.str y4]] = some
 r := ofR (F := fun s => T58 (orc C s.k) s.k s.m 0 0 y1 y2 y3 y4) (fun k => e58 k k 0 0 y1 y2 y3 y4) (by
  unfold T58
  repeat' first | with_reducible exact cC | with_reducible refine cN cR fun _ => ?_ | with_reducible refine cT fun _ => ?_ | with_reducible refine cF ?_ ?_ | with_reducible refine cB fun _ => ?_ | with_reducible refine cN cC fun _ => ?_ | with_reducible exact cR | exact cD0 gK) h

noncomputable def T59 (O : Orc) (k m q0 q1 : Nat) (y1 : Int) (y2 : Int) (y3 : Int) (y4 : Int) (y5 : Nat) (y6 : List V) (y7 : Int) (y8 : Bool) (y9 : Bool) (y10 : Int) : Option V := bif y9 then need (O.R
 0 31 [V.pin [V.int .i64 y1, V.int .i64 y2, V.int .i64 y3, V.int .i64 y4, V.sl y5 y6, V.int .i64 y7, V.bool y8] 0]) fun x1 => asTup (some x1) fun x2 => PI.asInt .i64 x2[0]? fun x3 => some (V.tup
 [V.bool (decide (IntKind.i64.wrap (x3 + y10) ≤ y7))]) else need (O.R 0 31 [V.pin [V.int .i64 y1, V.int .i64 y2, V.int .i64 y3, V.int .i64 y4, V.sl y5 y6, V.int .i64 y7, V.bool y8] 0]) fun x4 => asTup
 (some x4) fun x5 => PI.asInt .i64 x5[0]? fun x6 => some (V.tup [V.bool (decide (y10 ≤ x6))])
theorem e59 (k m q0 q1 : Nat) (y1 : Int) (y2 : Int) (y3 : Int) (y4 : Int) (y5 : Nat) (y6 : List V) (y7 : Int) (y8 : Bool) (y9 : Bool) (y10 : Int) : runV C (k + 1) 59 [V.pin [V.int .i64 y1, V.int .i64
 y2, V.int .i64 y3, V.int .i64 y4, V.sl y5 y6, V.int .i64 y7, V.bool y8] 0, V.bool y9, V.int .i64 y10] = T59 (orc C k) k m q0 q1 y1 y2 y3 y4 y5 y6 y7 y8 y9 y10 := by kernel_rfl
theorem E59 (y1 : Int) (y2 : Int) (y3 : Int) (y4 : Int) (y5 : Nat) (y6 : List V) (y7 : Int) (y8 : Bool) (y9 : Bool) (y10 : Int) {r : V} (h : T59 (orcE C) 0 0 0 0 y1 y2 y3 y4 y5 y6 y7 y8 y9 y10 = some
 r) : runE C 59 [V.pin [V.int .i64 y1, V.int .i64 y2, V.int .i64 y3, V.int .i64 y4, V.sl y5 y6, V.int .i64 y7, V.bool y8] 0, V.bool y9, V.int .i64 y10] = some r := ofR (F := fun s => T59 (orc C s.k)
 s.k s.m 0 0 y1 y2 y3 y4 y5 y6 y7 y8 y9 y10) (fun k => e59 k k 0 0 y1 y2 y3 y4 y5 y6 y7 y8 y9 y10) (by
  unfold T59
  repeat' first | with_reducible exact cC | with_reducible refine cN cR fun _ => ?_ | with_reducible refine cT fun _ => ?_ | with_reducible refine cI fun _ => ?_ | with_reducible refine cF ?_ ?_ | with_reducible refine cN cC fun _ => ?_ | with_reducible exact cR) h

noncomputable def T48 (O : Orc) (k m q0 q1 : Nat) (y1 : Int) (y2 : Nat) (y3 : List V) (y4 : Int) : Option V := need (O.W 0 52 [] [V.ptr 0 0, V.int .i64 y1] [Ob.box 80 [V.sl y2 y3, V.int .i64 y4]
 false]) fun x1 => asTup (some x1) fun x2 => PI.asInt .i64 x2[0]? fun x3 => asSl x2[1]? fun x4 x5 => PI.asInt .i64 x2[2]? fun x6 => some (V.tup [V.bool (x3 == 0), V.sl x4 x5, V.int .i64 x6])
theorem e48 (k m q0 q1 : Nat) (y1 : Int) (y2 : Nat) (y3 : List V) (y4 : Int) : runW C (k + 1) 48 [] [V.ptr 0 0, V.int .i64 y1] [Ob.box 80 [V.sl y2 y3, V.int .i64 y4] false] = T48 (orc C k) k m q0 q1 y1
 y2 y3 y4 := by kernel_rfl
theorem E48 (y1 : Int) (y2 : Nat) (y3 : List V) (y4 : Int) {r : V} (h : T48 (orcE C) 0 0 0 0 y1 y2 y3 y4 = some r) : runWE C 48 [] [V.ptr 0 0, V.int .i64 y1] [Ob.box 80 [V.sl y2 y3, V.int .i64 y4]
 false] = some r := ofW (F := fun s => T48 (orc C s.k) s.k s.m 0 0 y1 y2 y3 y4) (fun k => e48 k k 0 0 y1 y2 y3 y4) (by
  unfold T48
  repeat' first | with_reducible exact cC | with_reducible refine cN cQ fun _ => ?_ | with_reducible refine cT fun _ => ?_ | with_reducible refine cI fun _ => ?_ | with_reducible refine cL fun _ _ => ?_ | with_reducible refine cN cC fun _ => ?_ | with_reducible exact cQ) h

noncomputable def T28l2 (O : Orc) (k m q0 q1 : Nat) (y1 : Int) (y2 : Nat) (y3 : List V) (y4 : Int) (y5 : Int) (y6 : Int) (y7 : Int) (y8 : Int) (y9 : Int) (y10 : Bool) (y11 : Nat) (y12 : List V) (y13 :
 Int) (y14 : Int) (y15 : Int) (y16 : Int) (y17 : Int) (y18 : Bool) (y19 : Nat) (y20 : List V) : Option V := need (O.W 0 52 [] [V.ptr 0 0, V.int .i64 2] [Ob.box 80 [V.sl y2 y3, V.int .i64 y4] false])
 fun x1 => asTup (some x1) fun x2 => PI.asInt .i64 x2[0]? fun x3 => asSl x2[1]? fun x4 x5 => PI.asInt .i64 x2[2]? fun x6 => bif decide (y1 < IntKind.i64.wrap (60 + x3)) then must (true && (y19 + 1).ble
 140737488355328 && ((y19 + 1) * 8).ble 140737488355328) (O.X 0 28 [] [Ob.box 80 [V.u, V.u] false] 3 [true, true, true, true, true, true, true, true, true, false, true, false, true, true, true, true,
 true, true, true, true, true, true, true, true, true, false, true, true] [] m [(0, V.ptr 0 0), (2, V.ptr 1 0), (3, V.ptr 3 0), (7, V.int .i64 (IntKind.i64.wrap (y1 + 1)))] [Ob.box 80 [V.sl x4 x5,
 V.int .i64 x6] false, Ob.box 26 [V.int .i64 y5, V.int .i64 y6, V.int .i64 y7, V.int .i64 y8, V.ref 2, V.int .i64 y9, V.bool y10] false, Ob.row 2 y11 y12 false, Ob.box 26 [V.int .i64 y13, V.int .i64
 y14, V.int .i64 y15, V.int .i64 y16, V.ref 4, V.int .i64 y17, V.bool y18] false, Ob.row 2 (y19 + 1) (y20 ++ [V.int .i64 (IntKind.i64.wrap (100 + y1))]) false]) else some (V.tup [V.int .i64 y13, V.int
 .i64 y14, V.int .i64 y15, V.int .i64 y16, V.sl y19 y20, V.int .i64 y17, V.bool y18, V.sl x4 x5, V.int .i64 x6])
theorem e28l2 (k m q0 q1 : Nat) (y1 : Int) (y2 : Nat) (y3 : List V) (y4 : Int) (y5 : Int) (y6 : Int) (y7 : Int) (y8 : Int) (y9 : Int) (y10 : Bool) (y11 : Nat) (y12 : List V) (y13 : Int) (y14 : Int)
 (y15 : Int) (y16 : Int) (y17 : Int) (y18 : Bool) (y19 : Nat) (y20 : List V) : runLW C k 28 [] [Ob.box 80 [V.u, V.u] false] 3 [true, true, true, true, true, true, true, true, true, false, true, false,
 true, true, true, true, true, true, true, true, true, true, true, true, true, false, true, true] [] (m + 1) [(0, V.ptr 0 0), (2, V.ptr 1 0), (3, V.ptr 3 0), (7, V.int .i64 y1)] [Ob.box 80 [V.sl y2 y3,
 V.int .i64 y4] false, Ob.box 26 [V.int .i64 y5, V.int .i64 y6, V.int .i64 y7, V.int .i64 y8, V.ref 2, V.int .i64 y9, V.bool y10] false, Ob.row 2 y11 y12 false, Ob.box 26 [V.int .i64 y13, V.int .i64
 y14, V.int .i64 y15, V.int .i64 y16, V.ref 4, V.int .i64 y17, V.bool y18] false, Ob.row 2 y19 y20 false] = T28l2 (orc C k) k m q0 q1 y1 y2 y3 y4 y5 y6 y7 y8 y9 y10 y11 y12 y13 y14 y15 y16 y17 y18 y19
 y20 := by kernel_rfl
theorem E28l2 (y1 : Int) (y2 : Nat) (y3 : List V) (y4 : Int) (y5 : Int) (y6 : Int) (y7 : Int) (y8 : Int) (y9 : Int) (y10 : Bool) (y11 : Nat) (y12 : List V) (y13 : Int) (y14 : Int) (y15 : Int) (y16 :
 Int) (y17 : Int) (y18 : Bool) (y19 : Nat) (y20 : List V) {r : V} (h : T28l2 (orcE C) 0 0 0 0 y1 y2 y3 y4 y5 y6 y7 y8 y9 y10 y11 y12 y13 y14 y15 y16 y17 y18 y19 y20 = some r) : loopWE C 28 [] [Ob.box
 80 [V.u, V.u] false] 3 [true, true, true, true, true, true, true, true, true, false, true, false, true, true, true, true, true, true, true, true, true, true, true, true, true, false, true, true] []
 [(0, V.ptr 0 0), (2, V.ptr 1 0), (3, V.ptr 3 0), (7, V.int .i64 y1)] [Ob.box 80 [V.sl y2 y3, V.int .i64 y4] false, Ob.box 26 [V.int .i64 y5, V.int .i64 y6, V.int .i64 y7, V.int .i64 y8, V.ref 2, V.int
 .i64 y9, V.bool y10] false, Ob.row 2 y11 y12 false, Ob.box 26 [V.int .i64 y13, V.int .i64 y14, V.int .i64 y15, V.int .i64 y16, V.ref 4, V.int .i64 y17, V.bool y18] false, Ob.row 2 y19 y20 false] =
 some r := ofX (j := 0) (F := fun s => T28l2 (orc C s.k) s.k s.m 0 0 y1 y2 y3 y4 y5 y6 y7 y8 y9 y10 y11 y12 y13 y14 y15 y16 y17 y18 y19 y20) (fs0 fun k m => e28l2 k m 0 0 y1 y2 y3 y4 y5 y6 y7 y8 y9 y10
 y11 y12 y13 y14 y15 y16 y17 y18 y19 y20) (by
  unfold T28l2
  repeat' first | with_reducible exact cC | with_reducible refine cN cQ fun _ => ?_ | with_reducible refine cT fun _ => ?_ | with_reducible refine cI fun _ => ?_ | with_reducible refine cM ?_ | with_reducible refine cF ?_ ?_ | with_reducible refine cL fun _ _ => ?_ | with_reducible refine cN cC fun _ => ?_ | with_reducible exact cQ | exact cX0 gM) h

noncomputable def T58l1 (O : Orc) (k m q0 q1 : Nat) (y1 : Int) (y2 : Int) (y3 : Int) (y4 : Int) (y5 : ByteArray) : Option V := bif decide (y1 < (↑y5.size : Int)) then must (inB y1 y5.size) (bif decide
 ((↑(y5.data.toList.getD y1.toNat (OfNat.ofNat 0)).toNat : Int) < 97) then bif decide ((↑(y5.data.toList.getD y1.toNat (OfNat.ofNat 0)).toNat : Int) < 48) then some (V.tup [V.int .i64 5]) else bif
 decide ((↑(y5.data.toList.getD y1.toNat (OfNat.ofNat 0)).toNat : Int) > 57) then some (V.tup [V.int .i64 5]) else O.L 0 58 0 [true, true, true, true, false, true] [] m [(1, V.ptr 0 0), (3, V.int .i64
 (IntKind.i64.wrap (y1 + 1)))] [Ob.box 30 [V.int .i64 y2, V.int .i64 y3, V.int .i64 y4, V.str y5] false] else bif decide ((↑(y5.data.toList.getD y1.toNat (OfNat.ofNat 0)).toNat : Int) > 122) then bif
 decide ((↑(y5.data.toList.getD y1.toNat (OfNat.ofNat 0)).toNat : Int) < 48) then some (V.tup [V.int .i64 5]) else bif decide ((↑(y5.data.toList.getD y1.toNat (OfNat.ofNat 0)).toNat : Int) > 57) then
 some (V.tup [V.int .i64 5]) else O.L 0 58 0 [true, true, true, true, false, true] [] m [(1, V.ptr 0 0), (3, V.int .i64 (IntKind.i64.wrap (y1 + 1)))] [Ob.box 30 [V.int .i64 y2, V.int .i64 y3, V.int
 .i64 y4, V.str y5] false] else O.L 0 58 0 [true, true, true, true, false, true] [] m [(1, V.ptr 0 0), (3, V.int .i64 (IntKind.i64.wrap (y1 + 1)))] [Ob.box 30 [V.int .i64 y2, V.int .i64 y3, V.int .i64
 y4, V.str y5] false]) else some (V.tup [V.int .i64 0])
theorem e58l1 (k m q0 q1 : Nat) (y1 : Int) (y2 : Int) (y3 : Int) (y4 : Int) (y5 : ByteArray) : runL C k 58 0 [true, true, true, true, false, true] [] (m + 1) [(1, V.ptr 0 0), (3, V.int .i64 y1)]
 [Ob.box 30 [V.int .i64 y2, V.int .i64 y3, V.int .i64 y4, V.str y5] false] = T58l1 (orc C k) k m q0 q1 y1 y2 y3 y4 y5 := by kernel_rfl
theorem E58l1 (y1 : Int) (y2 : Int) (y3 : Int) (y4 : Int) (y5 : ByteArray) {r : V} (h : T58l1 (orcE C) 0 0 0 0 y1 y2 y3 y4 y5 = some r) : loopE C 58 0 [true, true, true, true, false, true] [] [(1,
 V.ptr 0 0), (3, V.int .i64 y1)] [Ob.box 30 [V.int .i64 y2, V.int .i64 y3, V.int .i64 y4, V.str y5] false] = some r := ofL (j := 0) (F := fun s => T58l1 (orc C s.k) s.k s.m 0 0 y1 y2 y3 y4 y5) (fs0 fun
 k m => e58l1 k m 0 0 y1 y2 y3 y4 y5) (by
  unfold T58l1
  repeat' first | with_reducible exact cC | with_reducible refine cM ?_ | with_reducible refine cF ?_ ?_ | exact cD0 gM) h

end Go.Proofs.YtkjjneejmjfhlaaDoor.EqD

