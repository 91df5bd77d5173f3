/-
  The functions of a table, as the interpreter tells them. Printed by a program.
-/
import Derived.Test.YtkjjneejmjfhlaaDoorPITabS
import Derived.Test.YtkjjneejmjfhlaaDoorPIPlain
import Derived.KernelRfl
namespace Go.Proofs.YtkjjneejmjfhlaaDoor.EqS
open Go Go.PI
set_option maxRecDepth 100000
set_option maxHeartbeats 4000000
set_option linter.unusedVariables false
set_option linter.unusedSimpArgs false
noncomputable abbrev C := tabS.cfg

noncomputable def T4 (O : Orc) (k m q0 q1 : Nat) (y1 : Int) (y2 : Int) (y3 : Int) (y4 : Int) (y5 : Nat) (y6 : List V) (y7 : Int) (y8 : Bool) (y9 : Int) (y10 : ByteArray) : Option V := bif decide
 ((↑y10.size : Int) > 1048576) then some (V.tup [V.bool true]) else need (O.R 0 13 [V.agg [V.int .i64 y1, V.int .i64 y2, V.int .i64 y3, V.int .i64 y4, V.sl y5 y6, V.int .i64 y7, V.bool y8], V.int .i64
 1048576]) fun x1 => asTup (some x1) fun x2 => PI.asInt .i64 x2[0]? fun x3 => bif decide (x3 < 0) then some (V.tup [V.bool true]) else need (O.R 0 14 [V.agg [V.int .i64 y1, V.int .i64 y2, V.int .i64
 y3, V.int .i64 y4, V.sl y5 y6, V.int .i64 y7, V.bool y8]]) fun x4 => asTup (some x4) fun x5 => PI.asInt .i64 x5[0]? fun x6 => PI.asInt .i64 x5[1]? fun x7 => PI.asInt .i64 x5[2]? fun x8 => PI.asInt
 .i64 x5[3]? fun x9 => asOsl x5[4]? fun x10 x11 => PI.asInt .i64 x5[5]? fun x12 => PI.asBool x5[6]? fun x13 => need (O.R 0 10 [V.agg [V.int .i64 x6, V.int .i64 x7, V.int .i64 x8, V.int .i64 x9, V.sl
 x10 x11, V.int .i64 x12, V.bool x13], V.int .i64 y9, V.str y10]) fun x14 => asTup (some x14) fun x15 => PI.asInt .i64 x15[0]? fun x16 => PI.asInt .i64 x15[1]? fun x17 => PI.asInt .i64 x15[2]? fun x18
 => PI.asInt .i64 x15[3]? fun x19 => PI.asInt .i64 x15[4]? fun x20 => asSl x15[5]? fun x21 x22 => PI.asInt .i64 x15[6]? fun x23 => PI.asBool x15[7]? fun x24 => PI.asInt .i64 x15[8]? fun x25 => PI.asInt
 .i64 x15[9]? fun x26 => PI.asInt .i64 x15[10]? fun x27 => asStr x15[11]? fun x28 => need (O.R 0 14 [V.agg [V.int .i64 y1, V.int .i64 y2, V.int .i64 y3, V.int .i64 y4, V.sl y5 y6, V.int .i64 y7, V.bool
 y8]]) fun x29 => asTup (some x29) fun x30 => PI.asInt .i64 x30[0]? fun x31 => PI.asInt .i64 x30[1]? fun x32 => PI.asInt .i64 x30[2]? fun x33 => PI.asInt .i64 x30[3]? fun x34 => asOsl x30[4]? fun x35
 x36 => PI.asInt .i64 x30[5]? fun x37 => PI.asBool x30[6]? fun x38 => need (O.R 0 9 [V.agg [V.int .i64 x31, V.int .i64 x32, V.int .i64 x33, V.int .i64 x34, V.sl x35 x36, V.int .i64 x37, V.bool x38],
 V.int .i64 y9, V.str y10]) fun x39 => asTup (some x39) fun x40 => PI.asInt .i64 x40[0]? fun x41 => PI.asInt .i64 x40[1]? fun x42 => PI.asInt .i64 x40[2]? fun x43 => PI.asInt .i64 x40[3]? fun x44 =>
 PI.asInt .i64 x40[4]? fun x45 => asOsl x40[5]? fun x46 x47 => PI.asInt .i64 x40[6]? fun x48 => PI.asBool x40[7]? fun x49 => PI.asInt .i64 x40[8]? fun x50 => PI.asInt .i64 x40[9]? fun x51 => PI.asInt
 .i64 x40[10]? fun x52 => asStr x40[11]? fun x53 => need (O.R 0 15 [V.agg [V.int .i64 x41, V.int .i64 x42, V.int .i64 x43, V.int .i64 x44, V.int .i64 x45, V.sl x46 x47, V.int .i64 x48, V.bool x49,
 V.int .i64 x50, V.int .i64 x51, V.int .i64 x52, V.str x53], V.agg [V.int .i64 x16, V.int .i64 x17, V.int .i64 x18, V.int .i64 x19, V.int .i64 x20, V.sl x21 x22, V.int .i64 x23, V.bool x24, V.int .i64
 x25, V.int .i64 x26, V.int .i64 x27, V.str x28]]) fun x54 => asTup (some x54) fun x55 => PI.asBool x55[0]? fun x56 => bif !x56 then some (V.tup [V.bool false]) else need (O.R 0 14 [V.agg [V.int .i64
 y1, V.int .i64 y2, V.int .i64 y3, V.int .i64 y4, V.sl y5 y6, V.int .i64 y7, V.bool y8]]) fun x57 => asTup (some x57) fun x58 => PI.asInt .i64 x58[0]? fun x59 => PI.asInt .i64 x58[1]? fun x60 =>
 PI.asInt .i64 x58[2]? fun x61 => PI.asInt .i64 x58[3]? fun x62 => asOsl x58[4]? fun x63 x64 => PI.asInt .i64 x58[5]? fun x65 => PI.asBool x58[6]? fun x66 => need (O.R 0 16 [V.agg [V.int .i64 x31,
 V.int .i64 x32, V.int .i64 x33, V.int .i64 x34, V.sl x35 x36, V.int .i64 x37, V.bool x38], V.agg [V.int .i64 x59, V.int .i64 x60, V.int .i64 x61, V.int .i64 x62, V.sl x63 x64, V.int .i64 x65, V.bool
 x66]]) fun x67 => asTup (some x67) fun x68 => PI.asBool x68[0]? fun x69 => bif !x69 then some (V.tup [V.bool false]) else need (O.W 0 17 [0] [V.agg [V.int .i64 x31, V.int .i64 x32, V.int .i64 x33,
 V.int .i64 x34, V.ref 0, V.int .i64 x37, V.bool x38], V.int .i64 1] [Ob.row 2 x35 x36 false]) fun x70 => asTup (some x70) fun x71 => PI.asInt .i64 x71[0]? fun x72 => asOsl x71[1]? fun x73 x74 => bif
 decide (x72 < 0) then some (V.tup [V.bool false]) else need (O.R 0 15 [V.agg [V.int .i64 x41, V.int .i64 x42, V.int .i64 x43, V.int .i64 x44, V.int .i64 x45, V.sl x46 x47, V.int .i64 x48, V.bool x49,
 V.int .i64 x50, V.int .i64 x51, V.int .i64 x52, V.str x53], V.agg [V.int .i64 x16, V.int .i64 x17, V.int .i64 x18, V.int .i64 x19, V.int .i64 x20, V.sl x21 x22, V.int .i64 x23, V.bool x24, V.int .i64
 x25, V.int .i64 x26, V.int .i64 x27, V.str x28]]) fun x75 => asTup (some x75) fun x76 => PI.asBool x76[0]? fun x77 => bif !x77 then some (V.tup [V.bool false]) else need (O.W 0 18 [0] [V.agg [V.int
 .i64 x41, V.int .i64 x42, V.int .i64 x43, V.int .i64 x44, V.int .i64 x45, V.ref 0, V.int .i64 x48, V.bool x49, V.int .i64 x50, V.int .i64 x51, V.int .i64 x52, V.str x53], V.int .i64 1] [Ob.row 2 x46
 x47 false]) fun x78 => asTup (some x78) fun x79 => PI.asInt .i64 x79[0]? fun x80 => asOsl x79[1]? fun x81 x82 => need (O.R 0 19 [V.agg [V.int .i64 x41, V.int .i64 x42, V.int .i64 x43, V.int .i64 x44,
 V.int .i64 x45, V.sl x81 x82, V.int .i64 x48, V.bool x49, V.int .i64 x50, V.int .i64 x51, V.int .i64 x52, V.str x53], V.int .i64 1]) fun x83 => asTup (some x83) fun x84 => PI.asInt .i64 x84[0]? fun
 x85 => bif decide (x85 < 0) then some (V.tup [V.bool false]) else bif x85 != x80 then some (V.tup [V.bool false]) else need (O.R 0 14 [V.agg [V.int .i64 y1, V.int .i64 y2, V.int .i64 y3, V.int .i64
 y4, V.sl y5 y6, V.int .i64 y7, V.bool y8]]) fun x86 => asTup (some x86) fun x87 => PI.asInt .i64 x87[0]? fun x88 => PI.asInt .i64 x87[1]? fun x89 => PI.asInt .i64 x87[2]? fun x90 => PI.asInt .i64
 x87[3]? fun x91 => asOsl x87[4]? fun x92 x93 => PI.asInt .i64 x87[5]? fun x94 => PI.asBool x87[6]? fun x95 => need (O.R 0 9 [V.agg [V.int .i64 x88, V.int .i64 x89, V.int .i64 x90, V.int .i64 x91, V.sl
 x92 x93, V.int .i64 x94, V.bool x95], V.int .i64 y9, V.str y10]) fun x96 => asTup (some x96) fun x97 => PI.asInt .i64 x97[0]? fun x98 => PI.asInt .i64 x97[1]? fun x99 => PI.asInt .i64 x97[2]? fun x100
 => PI.asInt .i64 x97[3]? fun x101 => PI.asInt .i64 x97[4]? fun x102 => asOsl x97[5]? fun x103 x104 => PI.asInt .i64 x97[6]? fun x105 => PI.asBool x97[7]? fun x106 => PI.asInt .i64 x97[8]? fun x107 =>
 PI.asInt .i64 x97[9]? fun x108 => PI.asInt .i64 x97[10]? fun x109 => asStr x97[11]? fun x110 => need (O.R 0 15 [V.agg [V.int .i64 x98, V.int .i64 x99, V.int .i64 x100, V.int .i64 x101, V.int .i64
 x102, V.sl x103 x104, V.int .i64 x105, V.bool x106, V.int .i64 x107, V.int .i64 x108, V.int .i64 x109, V.str x110], V.agg [V.int .i64 x16, V.int .i64 x17, V.int .i64 x18, V.int .i64 x19, V.int .i64
 x20, V.sl x21 x22, V.int .i64 x23, V.bool x24, V.int .i64 x25, V.int .i64 x26, V.int .i64 x27, V.str x28]]) fun x111 => asTup (some x111) fun x112 => PI.asBool x112[0]? fun x113 => bif !x113 then some
 (V.tup [V.bool false]) else need (O.R 0 19 [V.agg [V.int .i64 x41, V.int .i64 x42, V.int .i64 x43, V.int .i64 x44, V.int .i64 x45, V.sl x81 x82, V.int .i64 x48, V.bool x49, V.int .i64 x50, V.int .i64
 x51, V.int .i64 x52, V.str x53], V.int .i64 1]) fun x114 => asTup (some x114) fun x115 => PI.asInt .i64 x115[0]? fun x116 => bif decide (x116 < 0) then some (V.tup [V.bool false]) else bif x116 != x80
 then some (V.tup [V.bool false]) else some (V.tup [V.bool true])
theorem e4 (k m q0 q1 : Nat) (y1 : Int) (y2 : Int) (y3 : Int) (y4 : Int) (y5 : Nat) (y6 : List V) (y7 : Int) (y8 : Bool) (y9 : Int) (y10 : ByteArray) : runV C (k + 1) 4 [V.agg [V.int .i64 y1, V.int
 .i64 y2, V.int .i64 y3, V.int .i64 y4, V.sl y5 y6, V.int .i64 y7, V.bool y8], V.int .i64 y9, V.str y10] = T4 (orc C k) k m q0 q1 y1 y2 y3 y4 y5 y6 y7 y8 y9 y10 := by kernel_rfl
theorem E4 (y1 : Int) (y2 : Int) (y3 : Int) (y4 : Int) (y5 : Nat) (y6 : List V) (y7 : Int) (y8 : Bool) (y9 : Int) (y10 : ByteArray) {r : V} (h : T4 (orcE C) 0 0 0 0 y1 y2 y3 y4 y5 y6 y7 y8 y9 y10 =
 some r) : runE C 4 [V.agg [V.int .i64 y1, V.int .i64 y2, V.int .i64 y3, V.int .i64 y4, V.sl y5 y6, V.int .i64 y7, V.bool y8], V.int .i64 y9, V.str y10] = some r := ofR (F := fun s => T4 (orc C s.k)
 s.k s.m 0 0 y1 y2 y3 y4 y5 y6 y7 y8 y9 y10) (fun k => e4 k k 0 0 y1 y2 y3 y4 y5 y6 y7 y8 y9 y10) (by
  unfold T4
  exact
    cF (cC) (cN cR (fun _ => cT (fun _ => cI (fun _ => cF (cC) (cN cR (fun _ => cT (fun _ => cI (fun _ => cI (fun _ => cI (fun _ => cI (fun _ => cO (fun _ _ => cI (fun _ => cB (fun _ => cN cR (fun _ => cT
    (fun _ => cI (fun _ => cI (fun _ => cI (fun _ => cI (fun _ => cI (fun _ => cL (fun _ _ => cI (fun _ => cB (fun _ => cI (fun _ => cI (fun _ => cI (fun _ => cS (fun _ => cN cR (fun _ => cT (fun _ =>
    cI (fun _ => cI (fun _ => cI (fun _ => cI (fun _ => cO (fun _ _ => cI (fun _ => cB (fun _ => cN cR (fun _ => cT (fun _ => cI (fun _ => cI (fun _ => cI (fun _ => cI (fun _ => cI (fun _ => cO (fun _
    _ => cI (fun _ => cB (fun _ => cI (fun _ => cI (fun _ => cI (fun _ => cS (fun _ => cN cR (fun _ => cT (fun _ => cB (fun _ => cF (cC) (cN cR (fun _ => cT (fun _ => cI (fun _ => cI (fun _ => cI (fun
    _ => cI (fun _ => cO (fun _ _ => cI (fun _ => cB (fun _ => cN cR (fun _ => cT (fun _ => cB (fun _ => cF (cC) (cN cQ (fun _ => cT (fun _ => cI (fun _ => cO (fun _ _ => cF (cC) (cN cR (fun _ => cT
    (fun _ => cB (fun _ => cF (cC) (cN cQ (fun _ => cT (fun _ => cI (fun _ => cO (fun _ _ => cN cR (fun _ => cT (fun _ => cI (fun _ => cF (cC) (cF (cC) (cN cR (fun _ => cT (fun _ => cI (fun _ => cI
    (fun _ => cI (fun _ => cI (fun _ => cO (fun _ _ => cI (fun _ => cB (fun _ => cN cR (fun _ => cT (fun _ => cI (fun _ => cI (fun _ => cI (fun _ => cI (fun _ => cI (fun _ => cO (fun _ _ => cI (fun _
    => cB (fun _ => cI (fun _ => cI (fun _ => cI (fun _ => cS (fun _ => cN cR (fun _ => cT (fun _ => cB (fun _ => cF (cC) (cN cR (fun _ => cT (fun _ => cI (fun _ => cF (cC) (cF (cC)
    (cC))))))))))))))))))))))))))))))))))))))))))))))))))))))))))))))))))))))))))))))))))))))))))))))))))))))))))))))))))))))) h

noncomputable def T13 (O : Orc) (k m q0 q1 : Nat) (y1 : Int) (y2 : Int) (y3 : Int) (y4 : Int) (y5 : Nat) (y6 : List V) (y7 : Int) (y8 : Bool) (y9 : Int) : Option V := need (O.R 0 42 [V.sl y5 y6, V.int
 .i64 y9]) fun x1 => asTup (some x1) fun x2 => PI.asInt .i64 x2[0]? fun x3 => bif decide (x3 < 0) then some (V.tup [V.int .i64 (-1)]) else some (V.tup [V.int .i64 x3])
theorem e13 (k m q0 q1 : Nat) (y1 : Int) (y2 : Int) (y3 : Int) (y4 : Int) (y5 : Nat) (y6 : List V) (y7 : Int) (y8 : Bool) (y9 : Int) : runV C (k + 1) 13 [V.agg [V.int .i64 y1, V.int .i64 y2, V.int .i64
 y3, V.int .i64 y4, V.sl y5 y6, V.int .i64 y7, V.bool y8], V.int .i64 y9] = T13 (orc C k) k m q0 q1 y1 y2 y3 y4 y5 y6 y7 y8 y9 := by kernel_rfl
theorem E13 (y1 : Int) (y2 : Int) (y3 : Int) (y4 : Int) (y5 : Nat) (y6 : List V) (y7 : Int) (y8 : Bool) (y9 : Int) {r : V} (h : T13 (orcE C) 0 0 0 0 y1 y2 y3 y4 y5 y6 y7 y8 y9 = some r) : runE C 13
 [V.agg [V.int .i64 y1, V.int .i64 y2, V.int .i64 y3, V.int .i64 y4, V.sl y5 y6, V.int .i64 y7, V.bool y8], V.int .i64 y9] = some r := ofR (F := fun s => T13 (orc C s.k) s.k s.m 0 0 y1 y2 y3 y4 y5 y6
 y7 y8 y9) (fun k => e13 k k 0 0 y1 y2 y3 y4 y5 y6 y7 y8 y9) (by
  unfold T13
  exact
    cN cR (fun _ => cT (fun _ => cI (fun _ => cF (cC) (cC))))) h

noncomputable def T14 (O : Orc) (k m q0 q1 : Nat) (y1 : Int) (y2 : Int) (y3 : Int) (y4 : Int) (y5 : Nat) (y6 : List V) (y7 : Int) (y8 : Bool) : Option V := need (O.R 0 43 [V.sl y5 y6]) fun x1 => asTup
 (some x1) fun x2 => asOsl x2[0]? fun x3 x4 => must (false || x4.all flatV) (some (V.tup [V.int .i64 y1, V.int .i64 y2, V.int .i64 y3, V.int .i64 y4, V.osl x3 x4, V.int .i64 y7, V.bool y8]))
theorem e14 (k m q0 q1 : Nat) (y1 : Int) (y2 : Int) (y3 : Int) (y4 : Int) (y5 : Nat) (y6 : List V) (y7 : Int) (y8 : Bool) : runV C (k + 1) 14 [V.agg [V.int .i64 y1, V.int .i64 y2, V.int .i64 y3, V.int
 .i64 y4, V.sl y5 y6, V.int .i64 y7, V.bool y8]] = T14 (orc C k) k m q0 q1 y1 y2 y3 y4 y5 y6 y7 y8 := by kernel_rfl
theorem E14 (y1 : Int) (y2 : Int) (y3 : Int) (y4 : Int) (y5 : Nat) (y6 : List V) (y7 : Int) (y8 : Bool) {r : V} (h : T14 (orcE C) 0 0 0 0 y1 y2 y3 y4 y5 y6 y7 y8 = some r) : runE C 14 [V.agg [V.int
 .i64 y1, V.int .i64 y2, V.int .i64 y3, V.int .i64 y4, V.sl y5 y6, V.int .i64 y7, V.bool y8]] = some r := ofR (F := fun s => T14 (orc C s.k) s.k s.m 0 0 y1 y2 y3 y4 y5 y6 y7 y8) (fun k => e14 k k 0 0
 y1 y2 y3 y4 y5 y6 y7 y8) (by
  unfold T14
  exact
    cN cR (fun _ => cT (fun _ => cO (fun _ _ => cM ((cC)))))) h

noncomputable def T10 (O : Orc) (k m q0 q1 : Nat) (y1 : Int) (y2 : Int) (y3 : Int) (y4 : Int) (y5 : Nat) (y6 : List V) (y7 : Int) (y8 : Bool) (y9 : Int) (y10 : ByteArray) : Option V := need (O.R 0 37
 [V.agg [V.int .i64 y1, V.int .i64 y2, V.int .i64 y3, V.int .i64 y4, V.sl y5 y6, V.int .i64 y7, V.bool y8]]) fun x1 => asTup (some x1) fun x2 => PI.asInt .i64 x2[0]? fun x3 => bif x3 != 0 then some
 (V.tup [V.int .i64 x3, V.int .i64 0, V.int .i64 0, V.int .i64 0, V.int .i64 0, V.sl 0 [], V.int .i64 0, V.bool false, V.int .i64 0, V.int .i64 0, V.int .i64 0, V.str { data := #[] }]) else need (O.R 0
 38 [V.agg [V.int .i64 y1, V.int .i64 y2, V.int .i64 y3, V.int .i64 y4, V.sl y5 y6, V.int .i64 y7, V.bool y8]]) fun x4 => asTup (some x4) fun x5 => PI.asInt .i64 x5[0]? fun x6 => PI.asInt .i64 x5[1]?
 fun x7 => PI.asInt .i64 x5[2]? fun x8 => PI.asInt .i64 x5[3]? fun x9 => asOsl x5[4]? fun x10 x11 => PI.asInt .i64 x5[5]? fun x12 => PI.asBool x5[6]? fun x13 => need (O.W 0 39 [] [V.ptr 0 0, V.int .i64
 y9, V.str y10] [Ob.box 26 [V.int .i64 x6, V.int .i64 x7, V.int .i64 x8, V.int .i64 x9, V.ref 1, V.int .i64 x12, V.bool x13] false, Ob.row 2 x10 x11 false]) fun x14 => asTup (some x14) fun x15 =>
 PI.asInt .i64 x15[0]? fun x16 => PI.asInt .i64 x15[1]? fun x17 => PI.asInt .i64 x15[2]? fun x18 => asStr x15[3]? fun x19 => PI.asInt .i64 x15[4]? fun x20 => PI.asInt .i64 x15[5]? fun x21 => PI.asInt
 .i64 x15[6]? fun x22 => PI.asInt .i64 x15[7]? fun x23 => PI.asInt .i64 x15[8]? fun x24 => asOsl x15[9]? fun x25 x26 => PI.asInt .i64 x15[10]? fun x27 => PI.asBool x15[11]? fun x28 => bif x20 != 0 then
 some (V.tup [V.int .i64 x20, V.int .i64 0, V.int .i64 0, V.int .i64 0, V.int .i64 0, V.sl 0 [], V.int .i64 0, V.bool false, V.int .i64 0, V.int .i64 0, V.int .i64 0, V.str { data := #[] }]) else some
 (V.tup [V.int .i64 0, V.int .i64 x21, V.int .i64 x22, V.int .i64 x23, V.int .i64 x24, V.sl x25 x26, V.int .i64 x27, V.bool x28, V.int .i64 x16, V.int .i64 x17, V.int .i64 x18, V.str x19])
theorem e10 (k m q0 q1 : Nat) (y1 : Int) (y2 : Int) (y3 : Int) (y4 : Int) (y5 : Nat) (y6 : List V) (y7 : Int) (y8 : Bool) (y9 : Int) (y10 : ByteArray) : runV C (k + 1) 10 [V.agg [V.int .i64 y1, V.int
 .i64 y2, V.int .i64 y3, V.int .i64 y4, V.sl y5 y6, V.int .i64 y7, V.bool y8], V.int .i64 y9, V.str y10] = T10 (orc C k) k m q0 q1 y1 y2 y3 y4 y5 y6 y7 y8 y9 y10 := by kernel_rfl
theorem E10 (y1 : Int) (y2 : Int) (y3 : Int) (y4 : Int) (y5 : Nat) (y6 : List V) (y7 : Int) (y8 : Bool) (y9 : Int) (y10 : ByteArray) {r : V} (h : T10 (orcE C) 0 0 0 0 y1 y2 y3 y4 y5 y6 y7 y8 y9 y10 =
 some r) : runE C 10 [V.agg [V.int .i64 y1, V.int .i64 y2, V.int .i64 y3, V.int .i64 y4, V.sl y5 y6, V.int .i64 y7, V.bool y8], V.int .i64 y9, V.str y10] = some r := ofR (F := fun s => T10 (orc C s.k)
 s.k s.m 0 0 y1 y2 y3 y4 y5 y6 y7 y8 y9 y10) (fun k => e10 k k 0 0 y1 y2 y3 y4 y5 y6 y7 y8 y9 y10) (by
  unfold T10
  exact
    cN cR (fun _ => cT (fun _ => cI (fun _ => cF (cC) (cN cR (fun _ => cT (fun _ => cI (fun _ => cI (fun _ => cI (fun _ => cI (fun _ => cO (fun _ _ => cI (fun _ => cB (fun _ => cN cQ (fun _ => cT (fun _ =>
    cI (fun _ => cI (fun _ => cI (fun _ => cS (fun _ => cI (fun _ => cI (fun _ => cI (fun _ => cI (fun _ => cI (fun _ => cO (fun _ _ => cI (fun _ => cB (fun _ => cF (cC) (cC))))))))))))))))))))))))))))) h

noncomputable def T9 (O : Orc) (k m q0 q1 : Nat) (y1 : Int) (y2 : Int) (y3 : Int) (y4 : Int) (y5 : Nat) (y6 : List V) (y7 : Int) (y8 : Bool) (y9 : Int) (y10 : ByteArray) : Option V := need (O.R 0 12
 [V.agg [V.int .i64 y1, V.int .i64 y2, V.int .i64 y3, V.int .i64 y4, V.sl y5 y6, V.int .i64 y7, V.bool y8]]) fun x1 => asTup (some x1) fun x2 => PI.asInt .i64 x2[0]? fun x3 => bif x3 != 0 then some
 (V.tup [V.int .i64 x3, V.int .i64 0, V.int .i64 0, V.int .i64 0, V.int .i64 0, V.osl 0 [], V.int .i64 0, V.bool false, V.int .i64 0, V.int .i64 0, V.int .i64 0, V.str { data := #[] }]) else need (O.R
 0 32 [V.agg [V.int .i64 y1, V.int .i64 y4, V.int .i64 y9, V.str y10]]) fun x4 => asTup (some x4) fun x5 => PI.asInt .i64 x5[0]? fun x6 => bif x6 != 0 then some (V.tup [V.int .i64 x6, V.int .i64 0,
 V.int .i64 0, V.int .i64 0, V.int .i64 0, V.osl 0 [], V.int .i64 0, V.bool false, V.int .i64 0, V.int .i64 0, V.int .i64 0, V.str { data := #[] }]) else need (O.R 0 33 [V.agg [V.int .i64 y1, V.int
 .i64 y2, V.int .i64 y3, V.int .i64 y4, V.sl y5 y6, V.int .i64 y7, V.bool y8]]) fun x7 => asTup (some x7) fun x8 => PI.asInt .i64 x8[0]? fun x9 => PI.asInt .i64 x8[1]? fun x10 => PI.asInt .i64 x8[2]?
 fun x11 => PI.asInt .i64 x8[3]? fun x12 => asOsl x8[4]? fun x13 x14 => PI.asInt .i64 x8[5]? fun x15 => PI.asBool x8[6]? fun x16 => need (O.R 0 35 [V.agg [V.int .i64 x9, V.int .i64 (IntKind.i64.wrap
 (y2 + y9)), V.int .i64 x11, V.int .i64 (IntKind.i64.wrap (y4 + 1)), V.sl x13 x14, V.int .i64 x15, V.bool x16]]) fun x17 => asTup (some x17) fun x18 => PI.asInt .i64 x18[0]? fun x19 => need (O.R 0 34
 [V.int .i64 x19, V.int .i64 0, V.int .i64 y7]) fun x20 => asTup (some x20) fun x21 => PI.asBool x21[0]? fun x22 => bif !x22 then some (V.tup [V.int .i64 3, V.int .i64 0, V.int .i64 0, V.int .i64 0,
 V.int .i64 0, V.osl 0 [], V.int .i64 0, V.bool false, V.int .i64 0, V.int .i64 0, V.int .i64 0, V.str { data := #[] }]) else need (O.R 0 36 [V.int .i64 (IntKind.i64.wrap (y2 + y9))]) fun x23 => asTup
 (some x23) fun x24 => PI.asBool x24[0]? fun x25 => bif !x25 then some (V.tup [V.int .i64 3, V.int .i64 0, V.int .i64 0, V.int .i64 0, V.int .i64 0, V.osl 0 [], V.int .i64 0, V.bool false, V.int .i64
 0, V.int .i64 0, V.int .i64 0, V.str { data := #[] }]) else must (false || x14.all flatV) (some (V.tup [V.int .i64 0, V.int .i64 x9, V.int .i64 (IntKind.i64.wrap (y2 + y9)), V.int .i64 x11, V.int .i64
 (IntKind.i64.wrap (y4 + 1)), V.osl x13 x14, V.int .i64 x15, V.bool x16, V.int .i64 y1, V.int .i64 y4, V.int .i64 y9, V.str y10]))
theorem e9 (k m q0 q1 : Nat) (y1 : Int) (y2 : Int) (y3 : Int) (y4 : Int) (y5 : Nat) (y6 : List V) (y7 : Int) (y8 : Bool) (y9 : Int) (y10 : ByteArray) : runV C (k + 1) 9 [V.agg [V.int .i64 y1, V.int
 .i64 y2, V.int .i64 y3, V.int .i64 y4, V.sl y5 y6, V.int .i64 y7, V.bool y8], V.int .i64 y9, V.str y10] = T9 (orc C k) k m q0 q1 y1 y2 y3 y4 y5 y6 y7 y8 y9 y10 := by kernel_rfl
theorem E9 (y1 : Int) (y2 : Int) (y3 : Int) (y4 : Int) (y5 : Nat) (y6 : List V) (y7 : Int) (y8 : Bool) (y9 : Int) (y10 : ByteArray) {r : V} (h : T9 (orcE C) 0 0 0 0 y1 y2 y3 y4 y5 y6 y7 y8 y9 y10 =
 some r) : runE C 9 [V.agg [V.int .i64 y1, V.int .i64 y2, V.int .i64 y3, V.int .i64 y4, V.sl y5 y6, V.int .i64 y7, V.bool y8], V.int .i64 y9, V.str y10] = some r := ofR (F := fun s => T9 (orc C s.k)
 s.k s.m 0 0 y1 y2 y3 y4 y5 y6 y7 y8 y9 y10) (fun k => e9 k k 0 0 y1 y2 y3 y4 y5 y6 y7 y8 y9 y10) (by
  unfold T9
  exact
    cN cR (fun _ => cT (fun _ => cI (fun _ => cF (cC) (cN cR (fun _ => cT (fun _ => cI (fun _ => cF (cC) (cN cR (fun _ => cT (fun _ => cI (fun _ => cI (fun _ => cI (fun _ => cI (fun _ => cO (fun _ _ => cI
    (fun _ => cB (fun _ => cN cR (fun _ => cT (fun _ => cI (fun _ => cN cR (fun _ => cT (fun _ => cB (fun _ => cF (cC) (cN cR (fun _ => cT (fun _ => cB (fun _ => cF (cC) (cM
    ((cC))))))))))))))))))))))))))))))) h

noncomputable def T15 (O : Orc) (k m q0 q1 : Nat) (y1 : Int) (y2 : Int) (y3 : Int) (y4 : Int) (y5 : Int) (y6 : Nat) (y7 : List V) (y8 : Int) (y9 : Bool) (y10 : Int) (y11 : Int) (y12 : Int) (y13 :
 ByteArray) (y14 : Int) (y15 : Int) (y16 : Int) (y17 : Int) (y18 : Int) (y19 : Nat) (y20 : List V) (y21 : Int) (y22 : Bool) (y23 : Int) (y24 : Int) (y25 : Int) (y26 : ByteArray) : Option V := bif y1 !=
 y14 then some (V.tup [V.bool false]) else need (O.R 0 16 [V.agg [V.int .i64 y2, V.int .i64 y3, V.int .i64 y4, V.int .i64 y5, V.sl y6 y7, V.int .i64 y8, V.bool y9], V.agg [V.int .i64 y15, V.int .i64
 y16, V.int .i64 y17, V.int .i64 y18, V.sl y19 y20, V.int .i64 y21, V.bool y22]]) fun x1 => asTup (some x1) fun x2 => PI.asBool x2[0]? fun x3 => bif !x3 then some (V.tup [V.bool false]) else need (O.R
 0 44 [V.agg [V.int .i64 y10, V.int .i64 y11, V.int .i64 y12, V.str y13], V.agg [V.int .i64 y23, V.int .i64 y24, V.int .i64 y25, V.str y26]]) fun x4 => asTup (some x4) fun x5 => PI.asBool x5[0]? fun x6
 => bif !x6 then some (V.tup [V.bool false]) else some (V.tup [V.bool true])
theorem e15 (k m q0 q1 : Nat) (y1 : Int) (y2 : Int) (y3 : Int) (y4 : Int) (y5 : Int) (y6 : Nat) (y7 : List V) (y8 : Int) (y9 : Bool) (y10 : Int) (y11 : Int) (y12 : Int) (y13 : ByteArray) (y14 : Int)
 (y15 : Int) (y16 : Int) (y17 : Int) (y18 : Int) (y19 : Nat) (y20 : List V) (y21 : Int) (y22 : Bool) (y23 : Int) (y24 : Int) (y25 : Int) (y26 : ByteArray) : runV C (k + 1) 15 [V.agg [V.int .i64 y1,
 V.int .i64 y2, V.int .i64 y3, V.int .i64 y4, V.int .i64 y5, V.sl y6 y7, V.int .i64 y8, V.bool y9, V.int .i64 y10, V.int .i64 y11, V.int .i64 y12, V.str y13], V.agg [V.int .i64 y14, V.int .i64 y15,
 V.int .i64 y16, V.int .i64 y17, V.int .i64 y18, V.sl y19 y20, V.int .i64 y21, V.bool y22, V.int .i64 y23, V.int .i64 y24, V.int .i64 y25, V.str y26]] = T15 (orc C k) k m q0 q1 y1 y2 y3 y4 y5 y6 y7 y8
 y9 y10 y11 y12 y13 y14 y15 y16 y17 y18 y19 y20 y21 y22 y23 y24 y25 y26 := by kernel_rfl
theorem E15 (y1 : Int) (y2 : Int) (y3 : Int) (y4 : Int) (y5 : Int) (y6 : Nat) (y7 : List V) (y8 : Int) (y9 : Bool) (y10 : Int) (y11 : Int) (y12 : Int) (y13 : ByteArray) (y14 : Int) (y15 : Int) (y16 :
 Int) (y17 : Int) (y18 : Int) (y19 : Nat) (y20 : List V) (y21 : Int) (y22 : Bool) (y23 : Int) (y24 : Int) (y25 : Int) (y26 : ByteArray) {r : V} (h : T15 (orcE C) 0 0 0 0 y1 y2 y3 y4 y5 y6 y7 y8 y9 y10
 y11 y12 y13 y14 y15 y16 y17 y18 y19 y20 y21 y22 y23 y24 y25 y26 = some r) : runE C 15 [V.agg [V.int .i64 y1, V.int .i64 y2, V.int .i64 y3, V.int .i64 y4, V.int .i64 y5, V.sl y6 y7, V.int .i64 y8,
 V.bool y9, V.int .i64 y10, V.int .i64 y11, V.int .i64 y12, V.str y13], V.agg [V.int .i64 y14, V.int .i64 y15, V.int .i64 y16, V.int .i64 y17, V.int .i64 y18, V.sl y19 y20, V.int .i64 y21, V.bool y22,
 V.int .i64 y23, V.int .i64 y24, V.int .i64 y25, V.str y26]] = some r := ofR (F := fun s => T15 (orc C s.k) s.k s.m 0 0 y1 y2 y3 y4 y5 y6 y7 y8 y9 y10 y11 y12 y13 y14 y15 y16 y17 y18 y19 y20 y21 y22
 y23 y24 y25 y26) (fun k => e15 k k 0 0 y1 y2 y3 y4 y5 y6 y7 y8 y9 y10 y11 y12 y13 y14 y15 y16 y17 y18 y19 y20 y21 y22 y23 y24 y25 y26) (by
  unfold T15
  exact
    cF (cC) (cN cR (fun _ => cT (fun _ => cB (fun _ => cF (cC) (cN cR (fun _ => cT (fun _ => cB (fun _ => cF (cC) (cC)))))))))) h

noncomputable def T16 (O : Orc) (k m q0 q1 : Nat) (y1 : Int) (y2 : Int) (y3 : Int) (y4 : Int) (y5 : Nat) (y6 : List V) (y7 : Int) (y8 : Bool) (y9 : Int) (y10 : Int) (y11 : Int) (y12 : Int) (y13 : Nat)
 (y14 : List V) (y15 : Int) (y16 : Bool) : Option V := bif y1 != y9 then some (V.tup [V.bool false]) else bif y2 != y10 then some (V.tup [V.bool false]) else bif y3 != y11 then some (V.tup [V.bool
 false]) else bif y4 != y12 then some (V.tup [V.bool false]) else need (O.R 0 45 [V.sl y5 y6, V.sl y13 y14]) fun x1 => asTup (some x1) fun x2 => PI.asBool x2[0]? fun x3 => bif !x3 then some (V.tup
 [V.bool false]) else bif y7 != y15 then some (V.tup [V.bool false]) else bif !y8 == y16 then some (V.tup [V.bool false]) else some (V.tup [V.bool true])
theorem e16 (k m q0 q1 : Nat) (y1 : Int) (y2 : Int) (y3 : Int) (y4 : Int) (y5 : Nat) (y6 : List V) (y7 : Int) (y8 : Bool) (y9 : Int) (y10 : Int) (y11 : Int) (y12 : Int) (y13 : Nat) (y14 : List V) (y15
 : Int) (y16 : Bool) : runV C (k + 1) 16 [V.agg [V.int .i64 y1, V.int .i64 y2, V.int .i64 y3, V.int .i64 y4, V.sl y5 y6, V.int .i64 y7, V.bool y8], V.agg [V.int .i64 y9, V.int .i64 y10, V.int .i64 y11,
 V.int .i64 y12, V.sl y13 y14, V.int .i64 y15, V.bool y16]] = T16 (orc C k) k m q0 q1 y1 y2 y3 y4 y5 y6 y7 y8 y9 y10 y11 y12 y13 y14 y15 y16 := by kernel_rfl
theorem E16 (y1 : Int) (y2 : Int) (y3 : Int) (y4 : Int) (y5 : Nat) (y6 : List V) (y7 : Int) (y8 : Bool) (y9 : Int) (y10 : Int) (y11 : Int) (y12 : Int) (y13 : Nat) (y14 : List V) (y15 : Int) (y16 :
 Bool) {r : V} (h : T16 (orcE C) 0 0 0 0 y1 y2 y3 y4 y5 y6 y7 y8 y9 y10 y11 y12 y13 y14 y15 y16 = some r) : runE C 16 [V.agg [V.int .i64 y1, V.int .i64 y2, V.int .i64 y3, V.int .i64 y4, V.sl y5 y6,
 V.int .i64 y7, V.bool y8], V.agg [V.int .i64 y9, V.int .i64 y10, V.int .i64 y11, V.int .i64 y12, V.sl y13 y14, V.int .i64 y15, V.bool y16]] = some r := ofR (F := fun s => T16 (orc C s.k) s.k s.m 0 0
 y1 y2 y3 y4 y5 y6 y7 y8 y9 y10 y11 y12 y13 y14 y15 y16) (fun k => e16 k k 0 0 y1 y2 y3 y4 y5 y6 y7 y8 y9 y10 y11 y12 y13 y14 y15 y16) (by
  unfold T16
  exact
    cF (cC) (cF (cC) (cF (cC) (cF (cC) (cN cR (fun _ => cT (fun _ => cB (fun _ => cF (cC) (cF (cC) (cF (cC) (cC))))))))))) h

noncomputable def T17 (O : Orc) (k m q0 q1 : Nat) (y1 : Int) (y2 : Int) (y3 : Int) (y4 : Int) (y5 : Int) (y6 : Bool) (y7 : Int) (y8 : Nat) (y9 : List V) : Option V := need (O.W 0 46 [0] [V.ref 0, V.int
 .i64 y7] [Ob.row 2 y8 y9 false]) fun x1 => asTup (some x1) fun x2 => PI.asInt .i64 x2[0]? fun x3 => asOsl x2[1]? fun x4 x5 => must (false || x5.all flatV) (some (V.tup [V.int .i64 x3, V.osl x4 x5]))
theorem e17 (k m q0 q1 : Nat) (y1 : Int) (y2 : Int) (y3 : Int) (y4 : Int) (y5 : Int) (y6 : Bool) (y7 : Int) (y8 : Nat) (y9 : List V) : runW C (k + 1) 17 [0] [V.agg [V.int .i64 y1, V.int .i64 y2, V.int
 .i64 y3, V.int .i64 y4, V.ref 0, V.int .i64 y5, V.bool y6], V.int .i64 y7] [Ob.row 2 y8 y9 false] = T17 (orc C k) k m q0 q1 y1 y2 y3 y4 y5 y6 y7 y8 y9 := by kernel_rfl
theorem E17 (y1 : Int) (y2 : Int) (y3 : Int) (y4 : Int) (y5 : Int) (y6 : Bool) (y7 : Int) (y8 : Nat) (y9 : List V) {r : V} (h : T17 (orcE C) 0 0 0 0 y1 y2 y3 y4 y5 y6 y7 y8 y9 = some r) : runWE C 17
 [0] [V.agg [V.int .i64 y1, V.int .i64 y2, V.int .i64 y3, V.int .i64 y4, V.ref 0, V.int .i64 y5, V.bool y6], V.int .i64 y7] [Ob.row 2 y8 y9 false] = some r := ofW (F := fun s => T17 (orc C s.k) s.k s.m
 0 0 y1 y2 y3 y4 y5 y6 y7 y8 y9) (fun k => e17 k k 0 0 y1 y2 y3 y4 y5 y6 y7 y8 y9) (by
  unfold T17
  exact
    cN cQ (fun _ => cT (fun _ => cI (fun _ => cO (fun _ _ => cM ((cC))))))) h

noncomputable def T18 (O : Orc) (k m q0 q1 : Nat) (y1 : Int) (y2 : Int) (y3 : Int) (y4 : Int) (y5 : Int) (y6 : Int) (y7 : Bool) (y8 : Int) (y9 : Int) (y10 : Int) (y11 : ByteArray) (y12 : Int) (y13 :
 Nat) (y14 : List V) : Option V := need (O.W 0 17 [0] [V.agg [V.int .i64 y2, V.int .i64 y3, V.int .i64 y4, V.int .i64 y5, V.ref 0, V.int .i64 y6, V.bool y7], V.int .i64 y12] [Ob.row 2 y13 y14 false])
 fun x1 => asTup (some x1) fun x2 => PI.asInt .i64 x2[0]? fun x3 => asOsl x2[1]? fun x4 x5 => must (false || x5.all flatV) (some (V.tup [V.int .i64 x3, V.osl x4 x5]))
theorem e18 (k m q0 q1 : Nat) (y1 : Int) (y2 : Int) (y3 : Int) (y4 : Int) (y5 : Int) (y6 : Int) (y7 : Bool) (y8 : Int) (y9 : Int) (y10 : Int) (y11 : ByteArray) (y12 : Int) (y13 : Nat) (y14 : List V) :
 runW C (k + 1) 18 [0] [V.agg [V.int .i64 y1, V.int .i64 y2, V.int .i64 y3, V.int .i64 y4, V.int .i64 y5, V.ref 0, V.int .i64 y6, V.bool y7, V.int .i64 y8, V.int .i64 y9, V.int .i64 y10, V.str y11],
 V.int .i64 y12] [Ob.row 2 y13 y14 false] = T18 (orc C k) k m q0 q1 y1 y2 y3 y4 y5 y6 y7 y8 y9 y10 y11 y12 y13 y14 := by kernel_rfl
theorem E18 (y1 : Int) (y2 : Int) (y3 : Int) (y4 : Int) (y5 : Int) (y6 : Int) (y7 : Bool) (y8 : Int) (y9 : Int) (y10 : Int) (y11 : ByteArray) (y12 : Int) (y13 : Nat) (y14 : List V) {r : V} (h : T18
 (orcE C) 0 0 0 0 y1 y2 y3 y4 y5 y6 y7 y8 y9 y10 y11 y12 y13 y14 = some r) : runWE C 18 [0] [V.agg [V.int .i64 y1, V.int .i64 y2, V.int .i64 y3, V.int .i64 y4, V.int .i64 y5, V.ref 0, V.int .i64 y6,
 V.bool y7, V.int .i64 y8, V.int .i64 y9, V.int .i64 y10, V.str y11], V.int .i64 y12] [Ob.row 2 y13 y14 false] = some r := ofW (F := fun s => T18 (orc C s.k) s.k s.m 0 0 y1 y2 y3 y4 y5 y6 y7 y8 y9 y10
 y11 y12 y13 y14) (fun k => e18 k k 0 0 y1 y2 y3 y4 y5 y6 y7 y8 y9 y10 y11 y12 y13 y14) (by
  unfold T18
  exact
    cN cQ (fun _ => cT (fun _ => cI (fun _ => cO (fun _ _ => cM ((cC))))))) h

noncomputable def T19 (O : Orc) (k m q0 q1 : Nat) (y1 : Int) (y2 : Int) (y3 : Int) (y4 : Int) (y5 : Int) (y6 : Nat) (y7 : List V) (y8 : Int) (y9 : Bool) (y10 : Int) (y11 : Int) (y12 : Int) (y13 :
 ByteArray) (y14 : Int) : Option V := need (O.R 0 47 [V.agg [V.int .i64 y2, V.int .i64 y3, V.int .i64 y4, V.int .i64 y5, V.sl y6 y7, V.int .i64 y8, V.bool y9], V.int .i64 y14]) fun x1 => asTup (some
 x1) fun x2 => PI.asInt .i64 x2[0]? fun x3 => bif decide (x3 < 0) then some (V.tup [V.int .i64 (-1)]) else some (V.tup [V.int .i64 x3])
theorem e19 (k m q0 q1 : Nat) (y1 : Int) (y2 : Int) (y3 : Int) (y4 : Int) (y5 : Int) (y6 : Nat) (y7 : List V) (y8 : Int) (y9 : Bool) (y10 : Int) (y11 : Int) (y12 : Int) (y13 : ByteArray) (y14 : Int) :
 runV C (k + 1) 19 [V.agg [V.int .i64 y1, V.int .i64 y2, V.int .i64 y3, V.int .i64 y4, V.int .i64 y5, V.sl y6 y7, V.int .i64 y8, V.bool y9, V.int .i64 y10, V.int .i64 y11, V.int .i64 y12, V.str y13],
 V.int .i64 y14] = T19 (orc C k) k m q0 q1 y1 y2 y3 y4 y5 y6 y7 y8 y9 y10 y11 y12 y13 y14 := by kernel_rfl
theorem E19 (y1 : Int) (y2 : Int) (y3 : Int) (y4 : Int) (y5 : Int) (y6 : Nat) (y7 : List V) (y8 : Int) (y9 : Bool) (y10 : Int) (y11 : Int) (y12 : Int) (y13 : ByteArray) (y14 : Int) {r : V} (h : T19
 (orcE C) 0 0 0 0 y1 y2 y3 y4 y5 y6 y7 y8 y9 y10 y11 y12 y13 y14 = some r) : runE C 19 [V.agg [V.int .i64 y1, V.int .i64 y2, V.int .i64 y3, V.int .i64 y4, V.int .i64 y5, V.sl y6 y7, V.int .i64 y8,
 V.bool y9, V.int .i64 y10, V.int .i64 y11, V.int .i64 y12, V.str y13], V.int .i64 y14] = some r := ofR (F := fun s => T19 (orc C s.k) s.k s.m 0 0 y1 y2 y3 y4 y5 y6 y7 y8 y9 y10 y11 y12 y13 y14) (fun k
 => e19 k k 0 0 y1 y2 y3 y4 y5 y6 y7 y8 y9 y10 y11 y12 y13 y14) (by
  unfold T19
  exact
    cN cR (fun _ => cT (fun _ => cI (fun _ => cF (cC) (cC))))) h

noncomputable def T42 (O : Orc) (k m q0 q1 : Nat) (y1 : Nat) (y2 : List V) (y3 : Int) : Option V := bif decide (IntKind.i64.wrap (y3 - (↑y1 : Int)) < 0) then some (V.tup [V.int .i64 (-1)]) else some
 (V.tup [V.int .i64 (IntKind.i64.wrap (y3 - (↑y1 : Int)))])
theorem e42 (k m q0 q1 : Nat) (y1 : Nat) (y2 : List V) (y3 : Int) : runV C (k + 1) 42 [V.sl y1 y2, V.int .i64 y3] = T42 (orc C k) k m q0 q1 y1 y2 y3 := by kernel_rfl
theorem E42 (y1 : Nat) (y2 : List V) (y3 : Int) {r : V} (h : T42 (orcE C) 0 0 0 0 y1 y2 y3 = some r) : runE C 42 [V.sl y1 y2, V.int .i64 y3] = some r := ofR (F := fun s => T42 (orc C s.k) s.k s.m 0 0
 y1 y2 y3) (fun k => e42 k k 0 0 y1 y2 y3) (by
  unfold T42
  exact
    cF (cC) (cC)) h

noncomputable def T43 (O : Orc) (k m q0 q1 : Nat) (y1 : Nat) (y2 : List V) : Option V := must (decide ((↑y1 : Int) = (↑y1 : Int)) && decide (0 ≤ (↑y1 : Int)) && decide ((↑y1 : Int) ≤ 140737488355328)
 && decide ((↑y1 : Int) * 8 ≤ 140737488355328)) (O.L 0 43 0 [true, true, false, true] [] k [(0, V.sl y1 y2), (3, V.ref 0), (4, V.int .i64 0)] [Ob.row 2 (↑y1 : Int).toNat (reps (↑y1 : Int).toNat [V.int
 .i64 0]) false])
theorem e43 (k m q0 q1 : Nat) (y1 : Nat) (y2 : List V) : runV C (k + 1) 43 [V.sl y1 y2] = T43 (orc C k) k m q0 q1 y1 y2 := by kernel_rfl
theorem E43 (y1 : Nat) (y2 : List V) {r : V} (h : T43 (orcE C) 0 0 0 0 y1 y2 = some r) : runE C 43 [V.sl y1 y2] = some r := ofR (F := fun s => T43 (orc C s.k) s.k s.m 0 0 y1 y2) (fun k => e43 k k 0 0
 y1 y2) (by
  unfold T43
  exact
    cM ((cD0 gK ))) h

noncomputable def T37 (O : Orc) (k m q0 q1 : Nat) (y1 : Int) (y2 : Int) (y3 : Int) (y4 : Int) (y5 : Nat) (y6 : List V) (y7 : Int) (y8 : Bool) : Option V := need (O.R 0 56 [V.int .i64 y1]) fun x1 =>
 asTup (some x1) fun x2 => PI.asBool x2[0]? fun x3 => bif !x3 then some (V.tup [V.int .i64 1]) else need (O.R 0 57 [V.int .i64 y2, V.int .i64 0, V.int .i64 1000000000000000]) fun x4 => asTup (some x4)
 fun x5 => PI.asBool x5[0]? fun x6 => bif !x6 then some (V.tup [V.int .i64 3]) else need (O.R 0 57 [V.int .i64 y3, V.int .i64 0, V.int .i64 1000000000000000]) fun x7 => asTup (some x7) fun x8 =>
 PI.asBool x8[0]? fun x9 => bif !x9 then some (V.tup [V.int .i64 3]) else need (O.R 0 57 [V.int .i64 y7, V.int .i64 0, V.int .i64 1000000000000000]) fun x10 => asTup (some x10) fun x11 => PI.asBool
 x11[0]? fun x12 => bif !x12 then some (V.tup [V.int .i64 3]) else need (O.R 0 57 [V.int .i64 y4, V.int .i64 1, V.int .i64 1000001]) fun x13 => asTup (some x13) fun x14 => PI.asBool x14[0]? fun x15 =>
 bif !x15 then some (V.tup [V.int .i64 3]) else bif decide ((↑y5 : Int) > 60) then some (V.tup [V.int .i64 2]) else O.L 0 37 0 [true, true, true, true, false, true] [] k [(1, V.ptr 0 0), (3, V.int .i64
 0)] [Ob.box 26 [V.int .i64 y1, V.int .i64 y2, V.int .i64 y3, V.int .i64 y4, V.sl y5 y6, V.int .i64 y7, V.bool y8] false]
theorem e37 (k m q0 q1 : Nat) (y1 : Int) (y2 : Int) (y3 : Int) (y4 : Int) (y5 : Nat) (y6 : List V) (y7 : Int) (y8 : Bool) : runV C (k + 1) 37 [V.agg [V.int .i64 y1, V.int .i64 y2, V.int .i64 y3, V.int
 .i64 y4, V.sl y5 y6, V.int .i64 y7, V.bool y8]] = T37 (orc C k) k m q0 q1 y1 y2 y3 y4 y5 y6 y7 y8 := by kernel_rfl
theorem E37 (y1 : Int) (y2 : Int) (y3 : Int) (y4 : Int) (y5 : Nat) (y6 : List V) (y7 : Int) (y8 : Bool) {r : V} (h : T37 (orcE C) 0 0 0 0 y1 y2 y3 y4 y5 y6 y7 y8 = some r) : runE C 37 [V.agg [V.int
 .i64 y1, V.int .i64 y2, V.int .i64 y3, V.int .i64 y4, V.sl y5 y6, V.int .i64 y7, V.bool y8]] = some r := ofR (F := fun s => T37 (orc C s.k) s.k s.m 0 0 y1 y2 y3 y4 y5 y6 y7 y8) (fun k => e37 k k 0 0
 y1 y2 y3 y4 y5 y6 y7 y8) (by
  unfold T37
  exact
    cN cR (fun _ => cT (fun _ => cB (fun _ => cF (cC) (cN cR (fun _ => cT (fun _ => cB (fun _ => cF (cC) (cN cR (fun _ => cT (fun _ => cB (fun _ => cF (cC) (cN cR (fun _ => cT (fun _ => cB (fun _ => cF
    (cC) (cN cR (fun _ => cT (fun _ => cB (fun _ => cF (cC) (cF (cC) (cD0 gK )))))))))))))))))))))) h

noncomputable def T38 (O : Orc) (k m q0 q1 : Nat) (y1 : Int) (y2 : Int) (y3 : Int) (y4 : Int) (y5 : Nat) (y6 : List V) (y7 : Int) (y8 : Bool) : Option V := must (decide (y6.length = y5 * 1)) (must
 (true && (0 + y5).ble 140737488355328 && ((0 + y5) * 8).ble 140737488355328) (must (false || y6.all flatV) (some (V.tup [V.int .i64 y1, V.int .i64 y2, V.int .i64 y3, V.int .i64 y4, V.osl (0 + y5) y6,
 V.int .i64 y7, V.bool y8]))))
theorem e38 (k m q0 q1 : Nat) (y1 : Int) (y2 : Int) (y3 : Int) (y4 : Int) (y5 : Nat) (y6 : List V) (y7 : Int) (y8 : Bool) : runV C (k + 1) 38 [V.agg [V.int .i64 y1, V.int .i64 y2, V.int .i64 y3, V.int
 .i64 y4, V.sl y5 y6, V.int .i64 y7, V.bool y8]] = T38 (orc C k) k m q0 q1 y1 y2 y3 y4 y5 y6 y7 y8 := by kernel_rfl
theorem E38 (y1 : Int) (y2 : Int) (y3 : Int) (y4 : Int) (y5 : Nat) (y6 : List V) (y7 : Int) (y8 : Bool) {r : V} (h : T38 (orcE C) 0 0 0 0 y1 y2 y3 y4 y5 y6 y7 y8 = some r) : runE C 38 [V.agg [V.int
 .i64 y1, V.int .i64 y2, V.int .i64 y3, V.int .i64 y4, V.sl y5 y6, V.int .i64 y7, V.bool y8]] = some r := ofR (F := fun s => T38 (orc C s.k) s.k s.m 0 0 y1 y2 y3 y4 y5 y6 y7 y8) (fun k => e38 k k 0 0
 y1 y2 y3 y4 y5 y6 y7 y8) (by
  unfold T38
  exact
    cM ((cM ((cM ((cC))))))) h

noncomputable def T39 (O : Orc) (k m q0 q1 : Nat) (y1 : Int) (y2 : ByteArray) (y3 : Int) (y4 : Int) (y5 : Int) (y6 : Int) (y7 : Int) (y8 : Bool) (y9 : Nat) (y10 : List V) : Option V := need (O.R 0 58
 [V.agg [V.int .i64 y3, V.int .i64 y6, V.int .i64 y1, V.str y2]]) fun x1 => asTup (some x1) fun x2 => PI.asInt .i64 x2[0]? fun x3 => bif x3 != 0 then must (false || y10.all flatV) (some (V.tup [V.int
 .i64 0, V.int .i64 0, V.int .i64 0, V.str { data := #[] }, V.int .i64 x3, V.int .i64 y3, V.int .i64 y4, V.int .i64 y5, V.int .i64 y6, V.osl y9 y10, V.int .i64 y7, V.bool y8])) else need (O.R 0 59
 [V.pin [V.int .i64 y3, V.int .i64 y4, V.int .i64 y5, V.int .i64 y6, V.sl y9 y10, V.int .i64 y7, V.bool y8] 0, V.bool (y3 == 1), V.int .i64 y1]) fun x4 => asTup (some x4) fun x5 => PI.asBool x5[0]? fun
 x6 => bif !x6 then must (false || y10.all flatV) (some (V.tup [V.int .i64 0, V.int .i64 0, V.int .i64 0, V.str { data := #[] }, V.int .i64 3, V.int .i64 y3, V.int .i64 y4, V.int .i64 y5, V.int .i64
 y6, V.osl y9 y10, V.int .i64 y7, V.bool y8])) else bif decide (IntKind.i64.wrap (y4 + y1) > 1000000000000000) then must (false || y10.all flatV) (some (V.tup [V.int .i64 0, V.int .i64 0, V.int .i64 0,
 V.str { data := #[] }, V.int .i64 3, V.int .i64 y3, V.int .i64 y4, V.int .i64 y5, V.int .i64 y6, V.osl y9 y10, V.int .i64 y7, V.bool y8])) else must (false || y10.all flatV) (some (V.tup [V.int .i64
 y3, V.int .i64 y6, V.int .i64 y1, V.str y2, V.int .i64 0, V.int .i64 y3, V.int .i64 (IntKind.i64.wrap (y4 + y1)), V.int .i64 y5, V.int .i64 (IntKind.i64.wrap (y6 + 1)), V.osl y9 y10, V.int .i64 y7,
 V.bool y8]))
theorem e39 (k m q0 q1 : Nat) (y1 : Int) (y2 : ByteArray) (y3 : Int) (y4 : Int) (y5 : Int) (y6 : Int) (y7 : Int) (y8 : Bool) (y9 : Nat) (y10 : List V) : runW C (k + 1) 39 [] [V.ptr 0 0, V.int .i64 y1,
 V.str y2] [Ob.box 26 [V.int .i64 y3, V.int .i64 y4, V.int .i64 y5, V.int .i64 y6, V.ref 1, V.int .i64 y7, V.bool y8] false, Ob.row 2 y9 y10 false] = T39 (orc C k) k m q0 q1 y1 y2 y3 y4 y5 y6 y7 y8 y9
 y10 := by kernel_rfl
theorem E39 (y1 : Int) (y2 : ByteArray) (y3 : Int) (y4 : Int) (y5 : Int) (y6 : Int) (y7 : Int) (y8 : Bool) (y9 : Nat) (y10 : List V) {r : V} (h : T39 (orcE C) 0 0 0 0 y1 y2 y3 y4 y5 y6 y7 y8 y9 y10 =
 some r) : runWE C 39 [] [V.ptr 0 0, V.int .i64 y1, V.str y2] [Ob.box 26 [V.int .i64 y3, V.int .i64 y4, V.int .i64 y5, V.int .i64 y6, V.ref 1, V.int .i64 y7, V.bool y8] false, Ob.row 2 y9 y10 false] =
 some r := ofW (F := fun s => T39 (orc C s.k) s.k s.m 0 0 y1 y2 y3 y4 y5 y6 y7 y8 y9 y10) (fun k => e39 k k 0 0 y1 y2 y3 y4 y5 y6 y7 y8 y9 y10) (by
  unfold T39
  exact
    cN cR (fun _ => cT (fun _ => cI (fun _ => cF (cM ((cC))) (cN cR (fun _ => cT (fun _ => cB (fun _ => cF (cM ((cC))) (cF (cM ((cC))) (cM ((cC)))))))))))) h

noncomputable def T12 (O : Orc) (k m q0 q1 : Nat) (y1 : Int) (y2 : Int) (y3 : Int) (y4 : Int) (y5 : Nat) (y6 : List V) (y7 : Int) (y8 : Bool) : Option V := need (O.R 0 40 [V.int .i64 y1]) fun x1 =>
 asTup (some x1) fun x2 => PI.asBool x2[0]? fun x3 => bif !x3 then some (V.tup [V.int .i64 1]) else need (O.R 0 36 [V.int .i64 y2]) fun x4 => asTup (some x4) fun x5 => PI.asBool x5[0]? fun x6 => bif
 !x6 then some (V.tup [V.int .i64 3]) else need (O.R 0 36 [V.int .i64 y3]) fun x7 => asTup (some x7) fun x8 => PI.asBool x8[0]? fun x9 => bif !x9 then some (V.tup [V.int .i64 3]) else need (O.R 0 36
 [V.int .i64 y7]) fun x10 => asTup (some x10) fun x11 => PI.asBool x11[0]? fun x12 => bif !x12 then some (V.tup [V.int .i64 3]) else need (O.R 0 34 [V.int .i64 y4, V.int .i64 1, V.int .i64 1000001])
 fun x13 => asTup (some x13) fun x14 => PI.asBool x14[0]? fun x15 => bif !x15 then some (V.tup [V.int .i64 3]) else bif decide ((↑y5 : Int) > 60) then some (V.tup [V.int .i64 2]) else O.L 0 12 1 [true,
 true, false, true] [] k [(1, V.ptr 0 0), (39, V.sl y5 y6), (40, V.int .i64 (↑y5 : Int)), (41, V.int .i64 0)] [Ob.box 26 [V.int .i64 y1, V.int .i64 y2, V.int .i64 y3, V.int .i64 y4, V.sl y5 y6, V.int
 .i64 y7, V.bool y8] false]
theorem e12 (k m q0 q1 : Nat) (y1 : Int) (y2 : Int) (y3 : Int) (y4 : Int) (y5 : Nat) (y6 : List V) (y7 : Int) (y8 : Bool) : runV C (k + 1) 12 [V.agg [V.int .i64 y1, V.int .i64 y2, V.int .i64 y3, V.int
 .i64 y4, V.sl y5 y6, V.int .i64 y7, V.bool y8]] = T12 (orc C k) k m q0 q1 y1 y2 y3 y4 y5 y6 y7 y8 := by kernel_rfl
theorem E12 (y1 : Int) (y2 : Int) (y3 : Int) (y4 : Int) (y5 : Nat) (y6 : List V) (y7 : Int) (y8 : Bool) {r : V} (h : T12 (orcE C) 0 0 0 0 y1 y2 y3 y4 y5 y6 y7 y8 = some r) : runE C 12 [V.agg [V.int
 .i64 y1, V.int .i64 y2, V.int .i64 y3, V.int .i64 y4, V.sl y5 y6, V.int .i64 y7, V.bool y8]] = some r := ofR (F := fun s => T12 (orc C s.k) s.k s.m 0 0 y1 y2 y3 y4 y5 y6 y7 y8) (fun k => e12 k k 0 0
 y1 y2 y3 y4 y5 y6 y7 y8) (by
  unfold T12
  exact
    cN cR (fun _ => cT (fun _ => cB (fun _ => cF (cC) (cN cR (fun _ => cT (fun _ => cB (fun _ => cF (cC) (cN cR (fun _ => cT (fun _ => cB (fun _ => cF (cC) (cN cR (fun _ => cT (fun _ => cB (fun _ => cF
    (cC) (cN cR (fun _ => cT (fun _ => cB (fun _ => cF (cC) (cF (cC) (cD0 gK )))))))))))))))))))))) h

noncomputable def T32 (O : Orc) (k m q0 q1 : Nat) (y1 : Int) (y2 : Int) (y3 : Int) (y4 : ByteArray) : Option V := need (O.R 0 40 [V.int .i64 y1]) fun x1 => asTup (some x1) fun x2 => PI.asBool x2[0]?
 fun x3 => bif !x3 then some (V.tup [V.int .i64 1]) else need (O.R 0 41 [V.int .i64 y2]) fun x4 => asTup (some x4) fun x5 => PI.asBool x5[0]? fun x6 => bif !x6 then some (V.tup [V.int .i64 3]) else
 need (O.R 0 34 [V.int .i64 y3, V.int .i64 1, V.int .i64 1000000000]) fun x7 => asTup (some x7) fun x8 => PI.asBool x8[0]? fun x9 => bif !x9 then some (V.tup [V.int .i64 3]) else need (O.R 0 34 [V.int
 .i64 (↑y4.size : Int), V.int .i64 1, V.int .i64 12]) fun x10 => asTup (some x10) fun x11 => PI.asBool x11[0]? fun x12 => bif !x12 then some (V.tup [V.int .i64 5]) else must (decide (y4.size ≤
 9223372036854775807) && true) (bif !strEq { data := (trimL y4.data.toList [97, 98, 99, 100, 101, 102, 103, 104, 105, 106, 107, 108, 109, 110, 111, 112, 113, 114, 115, 116, 117, 118, 119, 120, 121,
 122, 48, 49, 50, 51, 52, 53, 54, 55, 56, 57]).toArray } { data := #[] } then some (V.tup [V.int .i64 5]) else some (V.tup [V.int .i64 0]))
theorem e32 (k m q0 q1 : Nat) (y1 : Int) (y2 : Int) (y3 : Int) (y4 : ByteArray) : runV C (k + 1) 32 [V.agg [V.int .i64 y1, V.int .i64 y2, V.int .i64 y3, V.str y4]] = T32 (orc C k) k m q0 q1 y1 y2 y3 y4
 := by kernel_rfl
theorem E32 (y1 : Int) (y2 : Int) (y3 : Int) (y4 : ByteArray) {r : V} (h : T32 (orcE C) 0 0 0 0 y1 y2 y3 y4 = some r) : runE C 32 [V.agg [V.int .i64 y1, V.int .i64 y2, V.int .i64 y3, V.str y4]] = some
 r := ofR (F := fun s => T32 (orc C s.k) s.k s.m 0 0 y1 y2 y3 y4) (fun k => e32 k k 0 0 y1 y2 y3 y4) (by
  unfold T32
  exact
    cN cR (fun _ => cT (fun _ => cB (fun _ => cF (cC) (cN cR (fun _ => cT (fun _ => cB (fun _ => cF (cC) (cN cR (fun _ => cT (fun _ => cB (fun _ => cF (cC) (cN cR (fun _ => cT (fun _ => cB (fun _ => cF
    (cC) (cM ((cF (cC) (cC)))))))))))))))))))) h

noncomputable def T33 (O : Orc) (k m q0 q1 : Nat) (y1 : Int) (y2 : Int) (y3 : Int) (y4 : Int) (y5 : Nat) (y6 : List V) (y7 : Int) (y8 : Bool) : Option V := need (O.R 0 55 [V.sl y5 y6]) fun x1 => asTup
 (some x1) fun x2 => asOsl x2[0]? fun x3 x4 => must (false || x4.all flatV) (some (V.tup [V.int .i64 y1, V.int .i64 y2, V.int .i64 y3, V.int .i64 y4, V.osl x3 x4, V.int .i64 y7, V.bool y8]))
theorem e33 (k m q0 q1 : Nat) (y1 : Int) (y2 : Int) (y3 : Int) (y4 : Int) (y5 : Nat) (y6 : List V) (y7 : Int) (y8 : Bool) : runV C (k + 1) 33 [V.agg [V.int .i64 y1, V.int .i64 y2, V.int .i64 y3, V.int
 .i64 y4, V.sl y5 y6, V.int .i64 y7, V.bool y8]] = T33 (orc C k) k m q0 q1 y1 y2 y3 y4 y5 y6 y7 y8 := by kernel_rfl
theorem E33 (y1 : Int) (y2 : Int) (y3 : Int) (y4 : Int) (y5 : Nat) (y6 : List V) (y7 : Int) (y8 : Bool) {r : V} (h : T33 (orcE C) 0 0 0 0 y1 y2 y3 y4 y5 y6 y7 y8 = some r) : runE C 33 [V.agg [V.int
 .i64 y1, V.int .i64 y2, V.int .i64 y3, V.int .i64 y4, V.sl y5 y6, V.int .i64 y7, V.bool y8]] = some r := ofR (F := fun s => T33 (orc C s.k) s.k s.m 0 0 y1 y2 y3 y4 y5 y6 y7 y8) (fun k => e33 k k 0 0
 y1 y2 y3 y4 y5 y6 y7 y8) (by
  unfold T33
  exact
    cN cR (fun _ => cT (fun _ => cO (fun _ _ => cM ((cC)))))) h

noncomputable def T35 (O : Orc) (k m q0 q1 : Nat) (y1 : Int) (y2 : Int) (y3 : Int) (y4 : Int) (y5 : Nat) (y6 : List V) (y7 : Int) (y8 : Bool) : Option V := bif y1 == 1 then some (V.tup [V.int .i64
 (IntKind.i64.wrap (y2 - y3))]) else some (V.tup [V.int .i64 (IntKind.i64.wrap (y3 - y2))])
theorem e35 (k m q0 q1 : Nat) (y1 : Int) (y2 : Int) (y3 : Int) (y4 : Int) (y5 : Nat) (y6 : List V) (y7 : Int) (y8 : Bool) : runV C (k + 1) 35 [V.agg [V.int .i64 y1, V.int .i64 y2, V.int .i64 y3, V.int
 .i64 y4, V.sl y5 y6, V.int .i64 y7, V.bool y8]] = T35 (orc C k) k m q0 q1 y1 y2 y3 y4 y5 y6 y7 y8 := by kernel_rfl
theorem E35 (y1 : Int) (y2 : Int) (y3 : Int) (y4 : Int) (y5 : Nat) (y6 : List V) (y7 : Int) (y8 : Bool) {r : V} (h : T35 (orcE C) 0 0 0 0 y1 y2 y3 y4 y5 y6 y7 y8 = some r) : runE C 35 [V.agg [V.int
 .i64 y1, V.int .i64 y2, V.int .i64 y3, V.int .i64 y4, V.sl y5 y6, V.int .i64 y7, V.bool y8]] = some r := ofR (F := fun s => T35 (orc C s.k) s.k s.m 0 0 y1 y2 y3 y4 y5 y6 y7 y8) (fun k => e35 k k 0 0
 y1 y2 y3 y4 y5 y6 y7 y8) (by
  unfold T35
  exact
    cF (cC) (cC)) h

noncomputable def T34 (O : Orc) (k m q0 q1 : Nat) (y1 : Int) (y2 : Int) (y3 : Int) : Option V := bif decide (y2 ≤ y1) then some (V.tup [V.bool (decide (y1 ≤ y3))]) else some (V.tup [V.bool false])
theorem e34 (k m q0 q1 : Nat) (y1 : Int) (y2 : Int) (y3 : Int) : runV C (k + 1) 34 [V.int .i64 y1, V.int .i64 y2, V.int .i64 y3] = T34 (orc C k) k m q0 q1 y1 y2 y3 := by kernel_rfl
theorem E34 (y1 : Int) (y2 : Int) (y3 : Int) {r : V} (h : T34 (orcE C) 0 0 0 0 y1 y2 y3 = some r) : runE C 34 [V.int .i64 y1, V.int .i64 y2, V.int .i64 y3] = some r := ofR (F := fun s => T34 (orc C
 s.k) s.k s.m 0 0 y1 y2 y3) (fun k => e34 k k 0 0 y1 y2 y3) (by
  unfold T34
  exact
    cF (cC) (cC)) h

noncomputable def T36 (O : Orc) (k m q0 q1 : Nat) (y1 : Int) : Option V := need (O.R 0 34 [V.int .i64 y1, V.int .i64 0, V.int .i64 1000000000000000]) fun x1 => asTup (some x1) fun x2 => PI.asBool
 x2[0]? fun x3 => some (V.tup [V.bool x3])
theorem e36 (k m q0 q1 : Nat) (y1 : Int) : runV C (k + 1) 36 [V.int .i64 y1] = T36 (orc C k) k m q0 q1 y1 := by kernel_rfl
theorem E36 (y1 : Int) {r : V} (h : T36 (orcE C) 0 0 0 0 y1 = some r) : runE C 36 [V.int .i64 y1] = some r := ofR (F := fun s => T36 (orc C s.k) s.k s.m 0 0 y1) (fun k => e36 k k 0 0 y1) (by
  unfold T36
  exact
    cN cR (fun _ => cT (fun _ => cB (fun _ => cC)))) h

noncomputable def T44 (O : Orc) (k m q0 q1 : Nat) (y1 : Int) (y2 : Int) (y3 : Int) (y4 : ByteArray) (y5 : Int) (y6 : Int) (y7 : Int) (y8 : ByteArray) : Option V := bif y1 != y5 then some (V.tup [V.bool
 false]) else bif y2 != y6 then some (V.tup [V.bool false]) else bif y3 != y7 then some (V.tup [V.bool false]) else bif !strEq y4 y8 then some (V.tup [V.bool false]) else some (V.tup [V.bool true])
theorem e44 (k m q0 q1 : Nat) (y1 : Int) (y2 : Int) (y3 : Int) (y4 : ByteArray) (y5 : Int) (y6 : Int) (y7 : Int) (y8 : ByteArray) : runV C (k + 1) 44 [V.agg [V.int .i64 y1, V.int .i64 y2, V.int .i64
 y3, V.str y4], V.agg [V.int .i64 y5, V.int .i64 y6, V.int .i64 y7, V.str y8]] = T44 (orc C k) k m q0 q1 y1 y2 y3 y4 y5 y6 y7 y8 := by kernel_rfl
theorem E44 (y1 : Int) (y2 : Int) (y3 : Int) (y4 : ByteArray) (y5 : Int) (y6 : Int) (y7 : Int) (y8 : ByteArray) {r : V} (h : T44 (orcE C) 0 0 0 0 y1 y2 y3 y4 y5 y6 y7 y8 = some r) : runE C 44 [V.agg
 [V.int .i64 y1, V.int .i64 y2, V.int .i64 y3, V.str y4], V.agg [V.int .i64 y5, V.int .i64 y6, V.int .i64 y7, V.str y8]] = some r := ofR (F := fun s => T44 (orc C s.k) s.k s.m 0 0 y1 y2 y3 y4 y5 y6 y7
 y8) (fun k => e44 k k 0 0 y1 y2 y3 y4 y5 y6 y7 y8) (by
  unfold T44
  exact
    cF (cC) (cF (cC) (cF (cC) (cF (cC) (cC))))) h

noncomputable def T45 (O : Orc) (k m q0 q1 : Nat) (y1 : Nat) (y2 : List V) (y3 : Nat) (y4 : List V) : Option V := bif (↑y1 : Int) != (↑y3 : Int) then some (V.tup [V.bool false]) else O.L 0 45 0 [true,
 true, false, true] [] k [(0, V.sl y1 y2), (1, V.sl y3 y4), (5, V.int .i64 0)] []
theorem e45 (k m q0 q1 : Nat) (y1 : Nat) (y2 : List V) (y3 : Nat) (y4 : List V) : runV C (k + 1) 45 [V.sl y1 y2, V.sl y3 y4] = T45 (orc C k) k m q0 q1 y1 y2 y3 y4 := by kernel_rfl
theorem E45 (y1 : Nat) (y2 : List V) (y3 : Nat) (y4 : List V) {r : V} (h : T45 (orcE C) 0 0 0 0 y1 y2 y3 y4 = some r) : runE C 45 [V.sl y1 y2, V.sl y3 y4] = some r := ofR (F := fun s => T45 (orc C s.k)
 s.k s.m 0 0 y1 y2 y3 y4) (fun k => e45 k k 0 0 y1 y2 y3 y4) (by
  unfold T45
  exact
    cF (cC) (cD0 gK )) h

noncomputable def T46 (O : Orc) (k m q0 q1 : Nat) (y1 : Int) (y2 : Nat) (y3 : List V) : Option V := O.X 0 46 [0] [Ob.row 2 0 [] false] 0 [true, false, true] [] k [(0, V.ref 0), (1, V.int .i64 y1), (5,
 V.int .i64 0)] [Ob.row 2 y2 y3 false]
theorem e46 (k m q0 q1 : Nat) (y1 : Int) (y2 : Nat) (y3 : List V) : runW C (k + 1) 46 [0] [V.ref 0, V.int .i64 y1] [Ob.row 2 y2 y3 false] = T46 (orc C k) k m q0 q1 y1 y2 y3 := by kernel_rfl
theorem E46 (y1 : Int) (y2 : Nat) (y3 : List V) {r : V} (h : T46 (orcE C) 0 0 0 0 y1 y2 y3 = some r) : runWE C 46 [0] [V.ref 0, V.int .i64 y1] [Ob.row 2 y2 y3 false] = some r := ofW (F := fun s => T46
 (orc C s.k) s.k s.m 0 0 y1 y2 y3) (fun k => e46 k k 0 0 y1 y2 y3) (by
  unfold T46
  exact
    cX0 gK ) h

noncomputable def T47 (O : Orc) (k m q0 q1 : Nat) (y1 : Int) (y2 : Int) (y3 : Int) (y4 : Int) (y5 : Nat) (y6 : List V) (y7 : Int) (y8 : Bool) (y9 : Int) : Option V := need (O.R 0 60 [V.sl y5 y6, V.int
 .i64 y9]) fun x1 => asTup (some x1) fun x2 => PI.asInt .i64 x2[0]? fun x3 => bif decide (x3 < 0) then some (V.tup [V.int .i64 (-1)]) else some (V.tup [V.int .i64 x3])
theorem e47 (k m q0 q1 : Nat) (y1 : Int) (y2 : Int) (y3 : Int) (y4 : Int) (y5 : Nat) (y6 : List V) (y7 : Int) (y8 : Bool) (y9 : Int) : runV C (k + 1) 47 [V.agg [V.int .i64 y1, V.int .i64 y2, V.int .i64
 y3, V.int .i64 y4, V.sl y5 y6, V.int .i64 y7, V.bool y8], V.int .i64 y9] = T47 (orc C k) k m q0 q1 y1 y2 y3 y4 y5 y6 y7 y8 y9 := by kernel_rfl
theorem E47 (y1 : Int) (y2 : Int) (y3 : Int) (y4 : Int) (y5 : Nat) (y6 : List V) (y7 : Int) (y8 : Bool) (y9 : Int) {r : V} (h : T47 (orcE C) 0 0 0 0 y1 y2 y3 y4 y5 y6 y7 y8 y9 = some r) : runE C 47
 [V.agg [V.int .i64 y1, V.int .i64 y2, V.int .i64 y3, V.int .i64 y4, V.sl y5 y6, V.int .i64 y7, V.bool y8], V.int .i64 y9] = some r := ofR (F := fun s => T47 (orc C s.k) s.k s.m 0 0 y1 y2 y3 y4 y5 y6
 y7 y8 y9) (fun k => e47 k k 0 0 y1 y2 y3 y4 y5 y6 y7 y8 y9) (by
  unfold T47
  exact
    cN cR (fun _ => cT (fun _ => cI (fun _ => cF (cC) (cC))))) h

noncomputable def T43l1 (O : Orc) (k m q0 q1 : Nat) (y1 : Nat) (y2 : List V) (y3 : Int) (y4 : Nat) (y5 : List V) : Option V := bif decide (y3 < (↑y1 : Int)) then must (inB y3 y1) (PI.asInt .i64
 y2[y3.toNat * 1]? fun x1 => must (inB y3 y4) (must ([V.int .i64 x1].length.beq 1 && (y3.toNat * 1 + [V.int .i64 x1].length).ble y5.length) (O.L 0 43 0 [true, true, false, true] [] m [(0, V.sl y1 y2),
 (3, V.ref 0), (4, V.int .i64 (IntKind.i64.wrap (y3 + 1)))] [Ob.row 2 y4 (splice y5 (y3.toNat * 1) [V.int .i64 x1]) false]))) else must (false || y5.all flatV) (some (V.tup [V.osl y4 y5]))
theorem e43l1 (k m q0 q1 : Nat) (y1 : Nat) (y2 : List V) (y3 : Int) (y4 : Nat) (y5 : List V) : runL C k 43 0 [true, true, false, true] [] (m + 1) [(0, V.sl y1 y2), (3, V.ref 0), (4, V.int .i64 y3)]
 [Ob.row 2 y4 y5 false] = T43l1 (orc C k) k m q0 q1 y1 y2 y3 y4 y5 := by kernel_rfl
theorem E43l1 (y1 : Nat) (y2 : List V) (y3 : Int) (y4 : Nat) (y5 : List V) {r : V} (h : T43l1 (orcE C) 0 0 0 0 y1 y2 y3 y4 y5 = some r) : loopE C 43 0 [true, true, false, true] [] [(0, V.sl y1 y2), (3,
 V.ref 0), (4, V.int .i64 y3)] [Ob.row 2 y4 y5 false] = some r := ofL (j := 0) (F := fun s => T43l1 (orc C s.k) s.k s.m 0 0 y1 y2 y3 y4 y5) (fs0 fun k m => e43l1 k m 0 0 y1 y2 y3 y4 y5) (by
  unfold T43l1
  exact
    cF (cM ((cI (fun _ => cM ((cM ((cD0 gM )))))))) (cM ((cC)))) h

noncomputable def T56 (O : Orc) (k m q0 q1 : Nat) (y1 : Int) : Option V := bif y1 == 1 then some (V.tup [V.bool true]) else some (V.tup [V.bool (y1 == 2)])
theorem e56 (k m q0 q1 : Nat) (y1 : Int) : runV C (k + 1) 56 [V.int .i64 y1] = T56 (orc C k) k m q0 q1 y1 := by kernel_rfl
theorem E56 (y1 : Int) {r : V} (h : T56 (orcE C) 0 0 0 0 y1 = some r) : runE C 56 [V.int .i64 y1] = some r := ofR (F := fun s => T56 (orc C s.k) s.k s.m 0 0 y1) (fun k => e56 k k 0 0 y1) (by
  unfold T56
  exact
    cF (cC) (cC)) h

noncomputable def T57 (O : Orc) (k m q0 q1 : Nat) (y1 : Int) (y2 : Int) (y3 : Int) : Option V := bif decide (y1 ≥ y2) then some (V.tup [V.bool (decide (y1 ≤ y3))]) else some (V.tup [V.bool false])
theorem e57 (k m q0 q1 : Nat) (y1 : Int) (y2 : Int) (y3 : Int) : runV C (k + 1) 57 [V.int .i64 y1, V.int .i64 y2, V.int .i64 y3] = T57 (orc C k) k m q0 q1 y1 y2 y3 := by kernel_rfl
theorem E57 (y1 : Int) (y2 : Int) (y3 : Int) {r : V} (h : T57 (orcE C) 0 0 0 0 y1 y2 y3 = some r) : runE C 57 [V.int .i64 y1, V.int .i64 y2, V.int .i64 y3] = some r := ofR (F := fun s => T57 (orc C
 s.k) s.k s.m 0 0 y1 y2 y3) (fun k => e57 k k 0 0 y1 y2 y3) (by
  unfold T57
  exact
    cF (cC) (cC)) h

noncomputable def T37l1 (O : Orc) (k m q0 q1 : Nat) (y1 : Int) (y2 : Int) (y3 : Int) (y4 : Int) (y5 : Int) (y6 : Nat) (y7 : List V) (y8 : Int) (y9 : Bool) : Option V := bif decide (y1 < (↑y6 : Int))
 then must (inB y1 y6) (PI.asInt .i64 y7[y1.toNat * 1]? fun x1 => need (O.R 0 57 [V.int .i64 x1, V.int .i64 1, V.int .i64 1000000]) fun x2 => asTup (some x2) fun x3 => PI.asBool x3[0]? fun x4 => bif
 !x4 then both (some (V.tup [V.int .i64 1])) (some (V.tup [V.int .i64 1])) else bif decide (y1 > 0) then must (inB y1 y6) (must (inB (IntKind.i64.wrap (y1 - 1)) y6) (both (PI.asInt .i64 y7[y1.toNat *
 1]? fun x5 => PI.asInt .i64 y7[(IntKind.i64.wrap (y1 - 1)).toNat * 1]? fun x6 => bif decide (x5 ≤ x6) then some (V.tup [V.int .i64 1]) else O.L 0 37 0 [true, true, true, true, false, true] [] m [(1,
 V.ptr 0 0), (3, V.int .i64 (IntKind.i64.wrap (y1 + 1)))] [Ob.box 26 [V.int .i64 y2, V.int .i64 y3, V.int .i64 y4, V.int .i64 y5, V.sl y6 y7, V.int .i64 y8, V.bool y9] false]) (PI.asInt .i64
 y7[(IntKind.i64.wrap (y1 - 1)).toNat * 1]? fun x7 => PI.asInt .i64 y7[y1.toNat * 1]? fun x8 => bif decide (x8 ≤ x7) then some (V.tup [V.int .i64 1]) else O.L 0 37 0 [true, true, true, true, false,
 true] [] m [(1, V.ptr 0 0), (3, V.int .i64 (IntKind.i64.wrap (y1 + 1)))] [Ob.box 26 [V.int .i64 y2, V.int .i64 y3, V.int .i64 y4, V.int .i64 y5, V.sl y6 y7, V.int .i64 y8, V.bool y9] false]))) else
 both (O.L 0 37 0 [true, true, true, true, false, true] [] m [(1, V.ptr 0 0), (3, V.int .i64 (IntKind.i64.wrap (y1 + 1)))] [Ob.box 26 [V.int .i64 y2, V.int .i64 y3, V.int .i64 y4, V.int .i64 y5, V.sl
 y6 y7, V.int .i64 y8, V.bool y9] false]) (O.L 0 37 0 [true, true, true, true, false, true] [] m [(1, V.ptr 0 0), (3, V.int .i64 (IntKind.i64.wrap (y1 + 1)))] [Ob.box 26 [V.int .i64 y2, V.int .i64 y3,
 V.int .i64 y4, V.int .i64 y5, V.sl y6 y7, V.int .i64 y8, V.bool y9] false])) else both (need (O.R 0 31 [V.pin [V.int .i64 y2, V.int .i64 y3, V.int .i64 y4, V.int .i64 y5, V.sl y6 y7, V.int .i64 y8,
 V.bool y9] 0]) fun x9 => asTup (some x9) fun x10 => PI.asInt .i64 x10[0]? fun x11 => need (O.R 0 57 [V.int .i64 x11, V.int .i64 0, V.int .i64 y8]) fun x12 => asTup (some x12) fun x13 => PI.asBool
 x13[0]? fun x14 => bif !x14 then some (V.tup [V.int .i64 1]) else some (V.tup [V.int .i64 0])) (need (O.R 0 31 [V.pin [V.int .i64 y2, V.int .i64 y3, V.int .i64 y4, V.int .i64 y5, V.sl y6 y7, V.int
 .i64 y8, V.bool y9] 0]) fun x15 => asTup (some x15) fun x16 => PI.asInt .i64 x16[0]? fun x17 => need (O.R 0 57 [V.int .i64 x17, V.int .i64 0, V.int .i64 y8]) fun x18 => asTup (some x18) fun x19 =>
 PI.asBool x19[0]? fun x20 => bif !x20 then some (V.tup [V.int .i64 1]) else some (V.tup [V.int .i64 0]))
theorem e37l1 (k m q0 q1 : Nat) (y1 : Int) (y2 : Int) (y3 : Int) (y4 : Int) (y5 : Int) (y6 : Nat) (y7 : List V) (y8 : Int) (y9 : Bool) : runL C k 37 0 [true, true, true, true, false, true] [] (m + 1)
 [(1, V.ptr 0 0), (3, V.int .i64 y1)] [Ob.box 26 [V.int .i64 y2, V.int .i64 y3, V.int .i64 y4, V.int .i64 y5, V.sl y6 y7, V.int .i64 y8, V.bool y9] false] = T37l1 (orc C k) k m q0 q1 y1 y2 y3 y4 y5 y6
 y7 y8 y9 := by kernel_rfl
theorem E37l1 (y1 : Int) (y2 : Int) (y3 : Int) (y4 : Int) (y5 : Int) (y6 : Nat) (y7 : List V) (y8 : Int) (y9 : Bool) {r : V} (h : T37l1 (orcE C) 0 0 0 0 y1 y2 y3 y4 y5 y6 y7 y8 y9 = some r) : loopE C
 37 0 [true, true, true, true, false, true] [] [(1, V.ptr 0 0), (3, V.int .i64 y1)] [Ob.box 26 [V.int .i64 y2, V.int .i64 y3, V.int .i64 y4, V.int .i64 y5, V.sl y6 y7, V.int .i64 y8, V.bool y9] false]
 = some r := ofL (j := 0) (F := fun s => T37l1 (orc C s.k) s.k s.m 0 0 y1 y2 y3 y4 y5 y6 y7 y8 y9) (fs0 fun k m => e37l1 k m 0 0 y1 y2 y3 y4 y5 y6 y7 y8 y9) (by
  unfold T37l1
  exact
    cF (cM ((cI (fun _ => cN cR (fun _ => cT (fun _ => cB (fun _ => cF (cW ((cC)) ((cC))) (cF (cM ((cM ((cW ((cI (fun _ => cI (fun _ => cF (cC) (cD0 gM ))))) ((cI (fun _ => cI (fun _ => cF (cC) (cD0 gM
    )))))))))) (cW ((cD0 gM )) ((cD0 gM ))))))))))) (cW ((cN cR (fun _ => cT (fun _ => cI (fun _ => cN cR (fun _ => cT (fun _ => cB (fun _ => cF (cC) (cC))))))))) ((cN cR (fun _ => cT (fun _ => cI (fun
    _ => cN cR (fun _ => cT (fun _ => cB (fun _ => cF (cC) (cC))))))))))) h

noncomputable def T58 (O : Orc) (k m q0 q1 : Nat) (y1 : Int) (y2 : Int) (y3 : Int) (y4 : ByteArray) : Option V := need (O.R 0 56 [V.int .i64 y1]) fun x1 => asTup (some x1) fun x2 => PI.asBool x2[0]?
 fun x3 => bif !x3 then some (V.tup [V.int .i64 1]) else need (O.R 0 57 [V.int .i64 y2, V.int .i64 1, V.int .i64 1000000]) fun x4 => asTup (some x4) fun x5 => PI.asBool x5[0]? fun x6 => bif !x6 then
 some (V.tup [V.int .i64 3]) else need (O.R 0 57 [V.int .i64 y3, V.int .i64 1, V.int .i64 1000000000]) fun x7 => asTup (some x7) fun x8 => PI.asBool x8[0]? fun x9 => bif !x9 then some (V.tup [V.int
 .i64 3]) else bif decide ((↑y4.size : Int) < 1) then some (V.tup [V.int .i64 5]) else bif decide ((↑y4.size : Int) > 12) then some (V.tup [V.int .i64 5]) else O.L 0 58 0 [true, true, true, true,
 false, true] [] k [(1, V.ptr 0 0), (3, V.int .i64 0)] [Ob.box 30 [V.int .i64 y1, V.int .i64 y2, V.int .i64 y3, V.str y4] false]
theorem e58 (k m q0 q1 : Nat) (y1 : Int) (y2 : Int) (y3 : Int) (y4 : ByteArray) : runV C (k + 1) 58 [V.agg [V.int .i64 y1, V.int .i64 y2, V.int .i64 y3, V.str y4]] = T58 (orc C k) k m q0 q1 y1 y2 y3 y4
 := by kernel_rfl
theorem E58 (y1 : Int) (y2 : Int) (y3 : Int) (y4 : ByteArray) {r : V} (h : T58 (orcE C) 0 0 0 0 y1 y2 y3 y4 = some r) : runE C 58 [V.agg [V.int .i64 y1, V.int .i64 y2, V.int .i64 y3, V.str y4]] = some
 r := ofR (F := fun s => T58 (orc C s.k) s.k s.m 0 0 y1 y2 y3 y4) (fun k => e58 k k 0 0 y1 y2 y3 y4) (by
  unfold T58
  exact
    cN cR (fun _ => cT (fun _ => cB (fun _ => cF (cC) (cN cR (fun _ => cT (fun _ => cB (fun _ => cF (cC) (cN cR (fun _ => cT (fun _ => cB (fun _ => cF (cC) (cF (cC) (cF (cC) (cD0 gK ))))))))))))))) h

noncomputable def T59 (O : Orc) (k m q0 q1 : Nat) (y1 : Int) (y2 : Int) (y3 : Int) (y4 : Int) (y5 : Nat) (y6 : List V) (y7 : Int) (y8 : Bool) (y9 : Bool) (y10 : Int) : Option V := bif y9 then both
 (need (O.R 0 31 [V.pin [V.int .i64 y1, V.int .i64 y2, V.int .i64 y3, V.int .i64 y4, V.sl y5 y6, V.int .i64 y7, V.bool y8] 0]) fun x1 => asTup (some x1) fun x2 => PI.asInt .i64 x2[0]? fun x3 => some
 (V.tup [V.bool (decide (IntKind.i64.wrap (x3 + y10) ≤ y7))])) (need (O.R 0 31 [V.pin [V.int .i64 y1, V.int .i64 y2, V.int .i64 y3, V.int .i64 y4, V.sl y5 y6, V.int .i64 y7, V.bool y8] 0]) fun x4 =>
 asTup (some x4) fun x5 => PI.asInt .i64 x5[0]? fun x6 => some (V.tup [V.bool (decide (IntKind.i64.wrap (x6 + y10) ≤ y7))])) else need (O.R 0 31 [V.pin [V.int .i64 y1, V.int .i64 y2, V.int .i64 y3,
 V.int .i64 y4, V.sl y5 y6, V.int .i64 y7, V.bool y8] 0]) fun x7 => asTup (some x7) fun x8 => PI.asInt .i64 x8[0]? fun x9 => some (V.tup [V.bool (decide (y10 ≤ x9))])
theorem e59 (k m q0 q1 : Nat) (y1 : Int) (y2 : Int) (y3 : Int) (y4 : Int) (y5 : Nat) (y6 : List V) (y7 : Int) (y8 : Bool) (y9 : Bool) (y10 : Int) : runV C (k + 1) 59 [V.pin [V.int .i64 y1, V.int .i64
 y2, V.int .i64 y3, V.int .i64 y4, V.sl y5 y6, V.int .i64 y7, V.bool y8] 0, V.bool y9, V.int .i64 y10] = T59 (orc C k) k m q0 q1 y1 y2 y3 y4 y5 y6 y7 y8 y9 y10 := by kernel_rfl
theorem E59 (y1 : Int) (y2 : Int) (y3 : Int) (y4 : Int) (y5 : Nat) (y6 : List V) (y7 : Int) (y8 : Bool) (y9 : Bool) (y10 : Int) {r : V} (h : T59 (orcE C) 0 0 0 0 y1 y2 y3 y4 y5 y6 y7 y8 y9 y10 = some
 r) : runE C 59 [V.pin [V.int .i64 y1, V.int .i64 y2, V.int .i64 y3, V.int .i64 y4, V.sl y5 y6, V.int .i64 y7, V.bool y8] 0, V.bool y9, V.int .i64 y10] = some r := ofR (F := fun s => T59 (orc C s.k)
 s.k s.m 0 0 y1 y2 y3 y4 y5 y6 y7 y8 y9 y10) (fun k => e59 k k 0 0 y1 y2 y3 y4 y5 y6 y7 y8 y9 y10) (by
  unfold T59
  exact
    cF (cW ((cN cR (fun _ => cT (fun _ => cI (fun _ => cC))))) ((cN cR (fun _ => cT (fun _ => cI (fun _ => cC)))))) (cN cR (fun _ => cT (fun _ => cI (fun _ => cC))))) h

noncomputable def T40 (O : Orc) (k m q0 q1 : Nat) (y1 : Int) : Option V := bif y1 == 1 then some (V.tup [V.bool true]) else some (V.tup [V.bool (y1 == 2)])
theorem e40 (k m q0 q1 : Nat) (y1 : Int) : runV C (k + 1) 40 [V.int .i64 y1] = T40 (orc C k) k m q0 q1 y1 := by kernel_rfl
theorem E40 (y1 : Int) {r : V} (h : T40 (orcE C) 0 0 0 0 y1 = some r) : runE C 40 [V.int .i64 y1] = some r := ofR (F := fun s => T40 (orc C s.k) s.k s.m 0 0 y1) (fun k => e40 k k 0 0 y1) (by
  unfold T40
  exact
    cF (cC) (cC)) h

noncomputable def T12l1 (O : Orc) (k m q0 q1 : Nat) (y1 : Nat) (y2 : List V) (y3 : Int) (y4 : Int) (y5 : Int) (y6 : Int) (y7 : Int) (y8 : Int) (y9 : Nat) (y10 : List V) (y11 : Int) (y12 : Bool) :
 Option V := bif decide (y4 < y3) then must (inB y4 y1) (PI.asInt .i64 y2[y4.toNat * 1]? fun x1 => need (O.R 0 41 [V.int .i64 x1]) fun x2 => asTup (some x2) fun x3 => PI.asBool x3[0]? fun x4 => bif !x4
 then some (V.tup [V.int .i64 1]) else bif decide (y4 > 0) then must (inB (IntKind.i64.wrap (y4 - 1)) y9) (PI.asInt .i64 y10[(IntKind.i64.wrap (y4 - 1)).toNat * 1]? fun x5 => bif decide (x5 ≥ x1) then
 some (V.tup [V.int .i64 1]) else O.L 0 12 1 [true, true, false, true] [] m [(1, V.ptr 0 0), (39, V.sl y1 y2), (40, V.int .i64 y3), (41, V.int .i64 (IntKind.i64.wrap (y4 + 1)))] [Ob.box 26 [V.int .i64
 y5, V.int .i64 y6, V.int .i64 y7, V.int .i64 y8, V.sl y9 y10, V.int .i64 y11, V.bool y12] false]) else O.L 0 12 1 [true, true, false, true] [] m [(1, V.ptr 0 0), (39, V.sl y1 y2), (40, V.int .i64 y3),
 (41, V.int .i64 (IntKind.i64.wrap (y4 + 1)))] [Ob.box 26 [V.int .i64 y5, V.int .i64 y6, V.int .i64 y7, V.int .i64 y8, V.sl y9 y10, V.int .i64 y11, V.bool y12] false]) else need (O.R 0 35 [V.agg [V.int
 .i64 y5, V.int .i64 y6, V.int .i64 y7, V.int .i64 y8, V.sl y9 y10, V.int .i64 y11, V.bool y12]]) fun x6 => asTup (some x6) fun x7 => PI.asInt .i64 x7[0]? fun x8 => need (O.R 0 34 [V.int .i64 x8, V.int
 .i64 0, V.int .i64 y11]) fun x9 => asTup (some x9) fun x10 => PI.asBool x10[0]? fun x11 => bif !x11 then some (V.tup [V.int .i64 1]) else some (V.tup [V.int .i64 0])
theorem e12l1 (k m q0 q1 : Nat) (y1 : Nat) (y2 : List V) (y3 : Int) (y4 : Int) (y5 : Int) (y6 : Int) (y7 : Int) (y8 : Int) (y9 : Nat) (y10 : List V) (y11 : Int) (y12 : Bool) : runL C k 12 1 [true,
 true, false, true] [] (m + 1) [(1, V.ptr 0 0), (39, V.sl y1 y2), (40, V.int .i64 y3), (41, V.int .i64 y4)] [Ob.box 26 [V.int .i64 y5, V.int .i64 y6, V.int .i64 y7, V.int .i64 y8, V.sl y9 y10, V.int
 .i64 y11, V.bool y12] false] = T12l1 (orc C k) k m q0 q1 y1 y2 y3 y4 y5 y6 y7 y8 y9 y10 y11 y12 := by kernel_rfl
theorem E12l1 (y1 : Nat) (y2 : List V) (y3 : Int) (y4 : Int) (y5 : Int) (y6 : Int) (y7 : Int) (y8 : Int) (y9 : Nat) (y10 : List V) (y11 : Int) (y12 : Bool) {r : V} (h : T12l1 (orcE C) 0 0 0 0 y1 y2 y3
 y4 y5 y6 y7 y8 y9 y10 y11 y12 = some r) : loopE C 12 1 [true, true, false, true] [] [(1, V.ptr 0 0), (39, V.sl y1 y2), (40, V.int .i64 y3), (41, V.int .i64 y4)] [Ob.box 26 [V.int .i64 y5, V.int .i64
 y6, V.int .i64 y7, V.int .i64 y8, V.sl y9 y10, V.int .i64 y11, V.bool y12] false] = some r := ofL (j := 0) (F := fun s => T12l1 (orc C s.k) s.k s.m 0 0 y1 y2 y3 y4 y5 y6 y7 y8 y9 y10 y11 y12) (fs0 fun
 k m => e12l1 k m 0 0 y1 y2 y3 y4 y5 y6 y7 y8 y9 y10 y11 y12) (by
  unfold T12l1
  exact
    cF (cM ((cI (fun _ => cN cR (fun _ => cT (fun _ => cB (fun _ => cF (cC) (cF (cM ((cI (fun _ => cF (cC) (cD0 gM ))))) (cD0 gM ))))))))) (cN cR (fun _ => cT (fun _ => cI (fun _ => cN cR (fun _ => cT (fun
    _ => cB (fun _ => cF (cC) (cC))))))))) h

noncomputable def T41 (O : Orc) (k m q0 q1 : Nat) (y1 : Int) : Option V := need (O.R 0 34 [V.int .i64 y1, V.int .i64 1, V.int .i64 1000000]) fun x1 => asTup (some x1) fun x2 => PI.asBool x2[0]? fun x3
 => some (V.tup [V.bool x3])
theorem e41 (k m q0 q1 : Nat) (y1 : Int) : runV C (k + 1) 41 [V.int .i64 y1] = T41 (orc C k) k m q0 q1 y1 := by kernel_rfl
theorem E41 (y1 : Int) {r : V} (h : T41 (orcE C) 0 0 0 0 y1 = some r) : runE C 41 [V.int .i64 y1] = some r := ofR (F := fun s => T41 (orc C s.k) s.k s.m 0 0 y1) (fun k => e41 k k 0 0 y1) (by
  unfold T41
  exact
    cN cR (fun _ => cT (fun _ => cB (fun _ => cC)))) h

noncomputable def T55 (O : Orc) (k m q0 q1 : Nat) (y1 : Nat) (y2 : List V) : Option V := bif y1.beq (OfNat.ofNat 0) then both (some (V.tup [V.osl 0 []])) (must (decide (y2.length = y1 * 1)) (must (true
 && (0 + y1).ble 140737488355328 && ((0 + y1) * 8).ble 140737488355328) (must (false || y2.all flatV) (some (V.tup [V.osl (0 + y1) y2]))))) else must (decide (y2.length = y1 * 1)) (must (true && (0 +
 y1).ble 140737488355328 && ((0 + y1) * 8).ble 140737488355328) (must (false || y2.all flatV) (some (V.tup [V.osl (0 + y1) y2]))))
theorem e55 (k m q0 q1 : Nat) (y1 : Nat) (y2 : List V) : runV C (k + 1) 55 [V.sl y1 y2] = T55 (orc C k) k m q0 q1 y1 y2 := by kernel_rfl
theorem E55 (y1 : Nat) (y2 : List V) {r : V} (h : T55 (orcE C) 0 0 0 0 y1 y2 = some r) : runE C 55 [V.sl y1 y2] = some r := ofR (F := fun s => T55 (orc C s.k) s.k s.m 0 0 y1 y2) (fun k => e55 k k 0 0
 y1 y2) (by
  unfold T55
  exact
    cF (cW ((cC)) ((cM ((cM ((cM ((cC))))))))) (cM ((cM ((cM ((cC)))))))) h

noncomputable def T45l1 (O : Orc) (k m q0 q1 : Nat) (y1 : Nat) (y2 : List V) (y3 : Nat) (y4 : List V) (y5 : Int) : Option V := bif decide (y5 < (↑y1 : Int)) then must (inB y5 y1) (PI.asInt .i64
 y2[y5.toNat * 1]? fun x1 => must (inB y5 y3) (PI.asInt .i64 y4[y5.toNat * 1]? fun x2 => bif x1 != x2 then some (V.tup [V.bool false]) else O.L 0 45 0 [true, true, false, true] [] m [(0, V.sl y1 y2),
 (1, V.sl y3 y4), (5, V.int .i64 (IntKind.i64.wrap (y5 + 1)))] [])) else some (V.tup [V.bool true])
theorem e45l1 (k m q0 q1 : Nat) (y1 : Nat) (y2 : List V) (y3 : Nat) (y4 : List V) (y5 : Int) : runL C k 45 0 [true, true, false, true] [] (m + 1) [(0, V.sl y1 y2), (1, V.sl y3 y4), (5, V.int .i64 y5)]
 [] = T45l1 (orc C k) k m q0 q1 y1 y2 y3 y4 y5 := by kernel_rfl
theorem E45l1 (y1 : Nat) (y2 : List V) (y3 : Nat) (y4 : List V) (y5 : Int) {r : V} (h : T45l1 (orcE C) 0 0 0 0 y1 y2 y3 y4 y5 = some r) : loopE C 45 0 [true, true, false, true] [] [(0, V.sl y1 y2), (1,
 V.sl y3 y4), (5, V.int .i64 y5)] [] = some r := ofL (j := 0) (F := fun s => T45l1 (orc C s.k) s.k s.m 0 0 y1 y2 y3 y4 y5) (fs0 fun k m => e45l1 k m 0 0 y1 y2 y3 y4 y5) (by
  unfold T45l1
  exact
    cF (cM ((cI (fun _ => cM ((cI (fun _ => cF (cC) (cD0 gM )))))))) (cC)) h

noncomputable def T46l1 (O : Orc) (k m q0 q1 : Nat) (y1 : Int) (y2 : Int) (y3 : Nat) (y4 : List V) : Option V := bif decide (y2 < (↑y3 : Int)) then must (inB y2 y3) (must ([V.int .i64 y1].length.beq 1
 && (y2.toNat * 1 + [V.int .i64 y1].length).ble y4.length) (O.X 0 46 [0] [Ob.row 2 0 [] false] 0 [true, false, true] [] m [(0, V.ref 0), (1, V.int .i64 (IntKind.i64.wrap (y1 + 1))), (5, V.int .i64
 (IntKind.i64.wrap (y2 + 1)))] [Ob.row 2 y3 (splice y4 (y2.toNat * 1) [V.int .i64 y1]) false])) else must (false || y4.all flatV) (some (V.tup [V.int .i64 y1, V.osl y3 y4]))
theorem e46l1 (k m q0 q1 : Nat) (y1 : Int) (y2 : Int) (y3 : Nat) (y4 : List V) : runLW C k 46 [0] [Ob.row 2 0 [] false] 0 [true, false, true] [] (m + 1) [(0, V.ref 0), (1, V.int .i64 y1), (5, V.int
 .i64 y2)] [Ob.row 2 y3 y4 false] = T46l1 (orc C k) k m q0 q1 y1 y2 y3 y4 := by kernel_rfl
theorem E46l1 (y1 : Int) (y2 : Int) (y3 : Nat) (y4 : List V) {r : V} (h : T46l1 (orcE C) 0 0 0 0 y1 y2 y3 y4 = some r) : loopWE C 46 [0] [Ob.row 2 0 [] false] 0 [true, false, true] [] [(0, V.ref 0),
 (1, V.int .i64 y1), (5, V.int .i64 y2)] [Ob.row 2 y3 y4 false] = some r := ofX (j := 0) (F := fun s => T46l1 (orc C s.k) s.k s.m 0 0 y1 y2 y3 y4) (fs0 fun k m => e46l1 k m 0 0 y1 y2 y3 y4) (by
  unfold T46l1
  exact
    cF (cM ((cM ((cX0 gM ))))) (cM ((cC)))) h

noncomputable def T60 (O : Orc) (k m q0 q1 : Nat) (y1 : Nat) (y2 : List V) (y3 : Int) : Option V := O.L 0 60 0 [true, false, true] [] k [(0, V.sl y1 y2), (1, V.int .i64 y3), (5, V.int .i64 0)] []
theorem e60 (k m q0 q1 : Nat) (y1 : Nat) (y2 : List V) (y3 : Int) : runV C (k + 1) 60 [V.sl y1 y2, V.int .i64 y3] = T60 (orc C k) k m q0 q1 y1 y2 y3 := by kernel_rfl
theorem E60 (y1 : Nat) (y2 : List V) (y3 : Int) {r : V} (h : T60 (orcE C) 0 0 0 0 y1 y2 y3 = some r) : runE C 60 [V.sl y1 y2, V.int .i64 y3] = some r := ofR (F := fun s => T60 (orc C s.k) s.k s.m 0 0
 y1 y2 y3) (fun k => e60 k k 0 0 y1 y2 y3) (by
  unfold T60
  exact
    cD0 gK ) h

noncomputable def T31 (O : Orc) (k m q0 q1 : Nat) (y1 : Int) (y2 : Int) (y3 : Int) (y4 : Int) (y5 : Nat) (y6 : List V) (y7 : Int) (y8 : Bool) : Option V := bif y1 == 1 then some (V.tup [V.int .i64
 (IntKind.i64.wrap (y2 - y3))]) else some (V.tup [V.int .i64 (IntKind.i64.wrap (y3 - y2))])
theorem e31 (k m q0 q1 : Nat) (y1 : Int) (y2 : Int) (y3 : Int) (y4 : Int) (y5 : Nat) (y6 : List V) (y7 : Int) (y8 : Bool) : runV C (k + 1) 31 [V.pin [V.int .i64 y1, V.int .i64 y2, V.int .i64 y3, V.int
 .i64 y4, V.sl y5 y6, V.int .i64 y7, V.bool y8] 0] = T31 (orc C k) k m q0 q1 y1 y2 y3 y4 y5 y6 y7 y8 := by kernel_rfl
theorem E31 (y1 : Int) (y2 : Int) (y3 : Int) (y4 : Int) (y5 : Nat) (y6 : List V) (y7 : Int) (y8 : Bool) {r : V} (h : T31 (orcE C) 0 0 0 0 y1 y2 y3 y4 y5 y6 y7 y8 = some r) : runE C 31 [V.pin [V.int
 .i64 y1, V.int .i64 y2, V.int .i64 y3, V.int .i64 y4, V.sl y5 y6, V.int .i64 y7, V.bool y8] 0] = some r := ofR (F := fun s => T31 (orc C s.k) s.k s.m 0 0 y1 y2 y3 y4 y5 y6 y7 y8) (fun k => e31 k k 0 0
 y1 y2 y3 y4 y5 y6 y7 y8) (by
  unfold T31
  exact
    cF (cC) (cC)) h

noncomputable def T58l1 (O : Orc) (k m q0 q1 : Nat) (y1 : Int) (y2 : Int) (y3 : Int) (y4 : Int) (y5 : ByteArray) : Option V := bif decide (y1 < (↑y5.size : Int)) then must (inB y1 y5.size) (bif decide
 ((↑(y5.data.toList.getD y1.toNat (OfNat.ofNat 0)).toNat : Int) < 97) then bif decide ((↑(y5.data.toList.getD y1.toNat (OfNat.ofNat 0)).toNat : Int) < 48) then some (V.tup [V.int .i64 5]) else bif
 decide ((↑(y5.data.toList.getD y1.toNat (OfNat.ofNat 0)).toNat : Int) > 57) then some (V.tup [V.int .i64 5]) else O.L 0 58 0 [true, true, true, true, false, true] [] m [(1, V.ptr 0 0), (3, V.int .i64
 (IntKind.i64.wrap (y1 + 1)))] [Ob.box 30 [V.int .i64 y2, V.int .i64 y3, V.int .i64 y4, V.str y5] false] else bif decide ((↑(y5.data.toList.getD y1.toNat (OfNat.ofNat 0)).toNat : Int) > 122) then bif
 decide ((↑(y5.data.toList.getD y1.toNat (OfNat.ofNat 0)).toNat : Int) < 48) then some (V.tup [V.int .i64 5]) else bif decide ((↑(y5.data.toList.getD y1.toNat (OfNat.ofNat 0)).toNat : Int) > 57) then
 some (V.tup [V.int .i64 5]) else O.L 0 58 0 [true, true, true, true, false, true] [] m [(1, V.ptr 0 0), (3, V.int .i64 (IntKind.i64.wrap (y1 + 1)))] [Ob.box 30 [V.int .i64 y2, V.int .i64 y3, V.int
 .i64 y4, V.str y5] false] else O.L 0 58 0 [true, true, true, true, false, true] [] m [(1, V.ptr 0 0), (3, V.int .i64 (IntKind.i64.wrap (y1 + 1)))] [Ob.box 30 [V.int .i64 y2, V.int .i64 y3, V.int .i64
 y4, V.str y5] false]) else some (V.tup [V.int .i64 0])
theorem e58l1 (k m q0 q1 : Nat) (y1 : Int) (y2 : Int) (y3 : Int) (y4 : Int) (y5 : ByteArray) : runL C k 58 0 [true, true, true, true, false, true] [] (m + 1) [(1, V.ptr 0 0), (3, V.int .i64 y1)]
 [Ob.box 30 [V.int .i64 y2, V.int .i64 y3, V.int .i64 y4, V.str y5] false] = T58l1 (orc C k) k m q0 q1 y1 y2 y3 y4 y5 := by kernel_rfl
theorem E58l1 (y1 : Int) (y2 : Int) (y3 : Int) (y4 : Int) (y5 : ByteArray) {r : V} (h : T58l1 (orcE C) 0 0 0 0 y1 y2 y3 y4 y5 = some r) : loopE C 58 0 [true, true, true, true, false, true] [] [(1,
 V.ptr 0 0), (3, V.int .i64 y1)] [Ob.box 30 [V.int .i64 y2, V.int .i64 y3, V.int .i64 y4, V.str y5] false] = some r := ofL (j := 0) (F := fun s => T58l1 (orc C s.k) s.k s.m 0 0 y1 y2 y3 y4 y5) (fs0 fun
 k m => e58l1 k m 0 0 y1 y2 y3 y4 y5) (by
  unfold T58l1
  exact
    cF (cM ((cF (cF (cC) (cF (cC) (cD0 gM ))) (cF (cF (cC) (cF (cC) (cD0 gM ))) (cD0 gM ))))) (cC)) h

noncomputable def T60l1 (O : Orc) (k m q0 q1 : Nat) (y1 : Nat) (y2 : List V) (y3 : Int) (y4 : Int) : Option V := bif decide (y4 < (↑y1 : Int)) then must (inB y4 y1) (PI.asInt .i64 y2[y4.toNat * 1]? fun
 x1 => bif x1 != y3 then some (V.tup [V.int .i64 (-1)]) else O.L 0 60 0 [true, false, true] [] m [(0, V.sl y1 y2), (1, V.int .i64 (IntKind.i64.wrap (y3 + 1))), (5, V.int .i64 (IntKind.i64.wrap (y4 +
 1)))] []) else some (V.tup [V.int .i64 y3])
theorem e60l1 (k m q0 q1 : Nat) (y1 : Nat) (y2 : List V) (y3 : Int) (y4 : Int) : runL C k 60 0 [true, false, true] [] (m + 1) [(0, V.sl y1 y2), (1, V.int .i64 y3), (5, V.int .i64 y4)] [] = T60l1 (orc C
 k) k m q0 q1 y1 y2 y3 y4 := by kernel_rfl
theorem E60l1 (y1 : Nat) (y2 : List V) (y3 : Int) (y4 : Int) {r : V} (h : T60l1 (orcE C) 0 0 0 0 y1 y2 y3 y4 = some r) : loopE C 60 0 [true, false, true] [] [(0, V.sl y1 y2), (1, V.int .i64 y3), (5,
 V.int .i64 y4)] [] = some r := ofL (j := 0) (F := fun s => T60l1 (orc C s.k) s.k s.m 0 0 y1 y2 y3 y4) (fs0 fun k m => e60l1 k m 0 0 y1 y2 y3 y4) (by
  unfold T60l1
  exact
    cF (cM ((cI (fun _ => cF (cC) (cD0 gM ))))) (cC)) h

end Go.Proofs.YtkjjneejmjfhlaaDoor.EqS

