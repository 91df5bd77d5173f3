/-
  The functions of a table, as the interpreter tells them. Printed by a program.
-/
import Derived.Test.YtkjjneejmjfhlaaPITab5
import Derived.Test.YtkjjneejmjfhlaaPIPlain
import Derived.KernelRfl
namespace Go.Proofs.Ytkjjneejmjfhlaa.Eq5
open Go Go.PI
set_option maxRecDepth 100000
set_option maxHeartbeats 4000000
set_option linter.unusedVariables false
set_option linter.unusedSimpArgs false
noncomputable abbrev C := tab5.cfg

noncomputable def T3 (O : Orc) (k m q0 q1 : Nat) (y1 : Int) (y2 : Nat) (y3 : List V) (y4 : Nat) (y5 : List V) : Option V := bif decide ((↑y4 : Int) > 1048576) then some (V.tup [V.bool true]) else need
 (O.R 0 6 [V.agg [V.int .i64 y1, V.sl y2 y3], V.int .i64 1048576]) fun x1 => asTup (some x1) fun x2 => PI.asInt .i64 x2[0]? fun x3 => bif decide (x3 < 0) then some (V.tup [V.bool true]) else need (O.R
 0 8 [V.agg [V.int .i64 y1, V.sl y2 y3]]) fun x4 => asTup (some x4) fun x5 => PI.asInt .i64 x5[0]? fun x6 => asOsl x5[1]? fun x7 x8 => need (O.R 0 9 [V.sl y4 y5]) fun x9 => asTup (some x9) fun x10 =>
 asOsl x10[0]? fun x11 x12 => need (O.R 0 7 [V.agg [V.int .i64 x6, V.sl x7 x8], V.sl x11 x12]) fun x13 => asTup (some x13) fun x14 => PI.asInt .i64 x14[0]? fun x15 => PI.asInt .i64 x14[1]? fun x16 =>
 asSl x14[2]? fun x17 x18 => need (O.R 0 8 [V.agg [V.int .i64 y1, V.sl y2 y3]]) fun x19 => asTup (some x19) fun x20 => PI.asInt .i64 x20[0]? fun x21 => asOsl x20[1]? fun x22 x23 => need (O.R 0 9 [V.sl
 y4 y5]) fun x24 => asTup (some x24) fun x25 => asOsl x25[0]? fun x26 x27 => need (O.R 0 10 [V.agg [V.int .i64 x21, V.sl x22 x23], V.sl x26 x27]) fun x28 => asTup (some x28) fun x29 => PI.asInt .i64
 x29[0]? fun x30 => PI.asInt .i64 x29[1]? fun x31 => asOsl x29[2]? fun x32 x33 => need (O.R 0 11 [V.agg [V.int .i64 x30, V.int .i64 x31, V.sl x32 x33], V.agg [V.int .i64 x15, V.int .i64 x16, V.sl x17
 x18]]) fun x34 => asTup (some x34) fun x35 => PI.asBool x35[0]? fun x36 => bif !x36 then some (V.tup [V.bool false]) else need (O.R 0 8 [V.agg [V.int .i64 y1, V.sl y2 y3]]) fun x37 => asTup (some x37)
 fun x38 => PI.asInt .i64 x38[0]? fun x39 => asOsl x38[1]? fun x40 x41 => need (O.R 0 12 [V.agg [V.int .i64 x21, V.sl x22 x23], V.agg [V.int .i64 x39, V.sl x40 x41]]) fun x42 => asTup (some x42) fun
 x43 => PI.asBool x43[0]? fun x44 => bif !x44 then some (V.tup [V.bool false]) else need (O.R 0 9 [V.sl y4 y5]) fun x45 => asTup (some x45) fun x46 => asOsl x46[0]? fun x47 x48 => need (O.R 0 13 [V.sl
 x26 x27, V.sl x47 x48]) fun x49 => asTup (some x49) fun x50 => PI.asBool x50[0]? fun x51 => bif !x51 then some (V.tup [V.bool false]) else need (O.W 0 14 [0] [V.agg [V.int .i64 x21, V.ref 0], V.int
 .i64 1] [Ob.row 52 x22 x23 false]) fun x52 => asTup (some x52) fun x53 => PI.asInt .i64 x53[0]? fun x54 => asOsl x53[1]? fun x55 x56 => need (O.W 0 15 [0] [V.ref 0, V.int .i64 x54] [Ob.row 5 x26 x27
 false]) fun x57 => asTup (some x57) fun x58 => PI.asInt .i64 x58[0]? fun x59 => asOsl x58[1]? fun x60 x61 => bif decide (x59 < 0) then some (V.tup [V.bool false]) else need (O.R 0 11 [V.agg [V.int
 .i64 x30, V.int .i64 x31, V.sl x32 x33], V.agg [V.int .i64 x15, V.int .i64 x16, V.sl x17 x18]]) fun x62 => asTup (some x62) fun x63 => PI.asBool x63[0]? fun x64 => bif !x64 then some (V.tup [V.bool
 false]) else need (O.W 0 16 [0] [V.agg [V.int .i64 x30, V.int .i64 x31, V.ref 0], V.int .i64 1] [Ob.row 52 x32 x33 false]) fun x65 => asTup (some x65) fun x66 => PI.asInt .i64 x66[0]? fun x67 => asOsl
 x66[1]? fun x68 x69 => need (O.R 0 17 [V.agg [V.int .i64 x30, V.int .i64 x31, V.sl x68 x69], V.int .i64 1]) fun x70 => asTup (some x70) fun x71 => PI.asInt .i64 x71[0]? fun x72 => bif decide (x72 < 0)
 then some (V.tup [V.bool false]) else bif x72 != x67 then some (V.tup [V.bool false]) else need (O.R 0 8 [V.agg [V.int .i64 y1, V.sl y2 y3]]) fun x73 => asTup (some x73) fun x74 => PI.asInt .i64
 x74[0]? fun x75 => asOsl x74[1]? fun x76 x77 => need (O.R 0 9 [V.sl y4 y5]) fun x78 => asTup (some x78) fun x79 => asOsl x79[0]? fun x80 x81 => need (O.R 0 10 [V.agg [V.int .i64 x75, V.sl x76 x77],
 V.sl x80 x81]) fun x82 => asTup (some x82) fun x83 => PI.asInt .i64 x83[0]? fun x84 => PI.asInt .i64 x83[1]? fun x85 => asOsl x83[2]? fun x86 x87 => need (O.R 0 11 [V.agg [V.int .i64 x84, V.int .i64
 x85, V.sl x86 x87], V.agg [V.int .i64 x15, V.int .i64 x16, V.sl x17 x18]]) fun x88 => asTup (some x88) fun x89 => PI.asBool x89[0]? fun x90 => bif !x90 then some (V.tup [V.bool false]) else need (O.R
 0 17 [V.agg [V.int .i64 x30, V.int .i64 x31, V.sl x68 x69], V.int .i64 1]) fun x91 => asTup (some x91) fun x92 => PI.asInt .i64 x92[0]? fun x93 => bif decide (x93 < 0) then some (V.tup [V.bool false])
 else bif x93 != x67 then some (V.tup [V.bool false]) else some (V.tup [V.bool true])
theorem e3 (k m q0 q1 : Nat) (y1 : Int) (y2 : Nat) (y3 : List V) (y4 : Nat) (y5 : List V) : runV C (k + 1) 3 [V.agg [V.int .i64 y1, V.sl y2 y3], V.sl y4 y5] = T3 (orc C k) k m q0 q1 y1 y2 y3 y4 y5 :=
 by kernel_rfl
theorem E3 (y1 : Int) (y2 : Nat) (y3 : List V) (y4 : Nat) (y5 : List V) {r : V} (h : T3 (orcE C) 0 0 0 0 y1 y2 y3 y4 y5 = some r) : runE C 3 [V.agg [V.int .i64 y1, V.sl y2 y3], V.sl y4 y5] = some r :=
 ofR (F := fun s => T3 (orc C s.k) s.k s.m 0 0 y1 y2 y3 y4 y5) (fun k => e3 k k 0 0 y1 y2 y3 y4 y5) (by
  unfold T3
  exact
    cF (cC) (cN cR (fun _ => cT (fun _ => cI (fun _ => cF (cC) (cN cR (fun _ => cT (fun _ => cI (fun _ => cO (fun _ _ => cN cR (fun _ => cT (fun _ => cO (fun _ _ => cN cR (fun _ => cT (fun _ => cI (fun _
    => cI (fun _ => cL (fun _ _ => cN cR (fun _ => cT (fun _ => cI (fun _ => cO (fun _ _ => cN cR (fun _ => cT (fun _ => cO (fun _ _ => cN cR (fun _ => cT (fun _ => cI (fun _ => cI (fun _ => cO (fun _
    _ => cN cR (fun _ => cT (fun _ => cB (fun _ => cF (cC) (cN cR (fun _ => cT (fun _ => cI (fun _ => cO (fun _ _ => cN cR (fun _ => cT (fun _ => cB (fun _ => cF (cC) (cN cR (fun _ => cT (fun _ => cO
    (fun _ _ => cN cR (fun _ => cT (fun _ => cB (fun _ => cF (cC) (cN cQ (fun _ => cT (fun _ => cI (fun _ => cO (fun _ _ => cN cQ (fun _ => cT (fun _ => cI (fun _ => cO (fun _ _ => cF (cC) (cN cR (fun
    _ => cT (fun _ => cB (fun _ => cF (cC) (cN cQ (fun _ => cT (fun _ => cI (fun _ => cO (fun _ _ => cN cR (fun _ => cT (fun _ => cI (fun _ => cF (cC) (cF (cC) (cN cR (fun _ => cT (fun _ => cI (fun _
    => cO (fun _ _ => cN cR (fun _ => cT (fun _ => cO (fun _ _ => cN cR (fun _ => cT (fun _ => cI (fun _ => cI (fun _ => cO (fun _ _ => cN cR (fun _ => cT (fun _ => cB (fun _ => cF (cC) (cN cR (fun _
    => cT (fun _ => cI (fun _ => cF (cC) (cF (cC) (cC)))))))))))))))))))))))))))))))))))))))))))))))))))))))))))))))))))))))))))))))))))))))))))) h

noncomputable def T5 (O : Orc) (k m q0 q1 : Nat) (y2 : Nat) (y3 : List V) (y4 : Nat) (y5 : List V) : Option V := need (O.R 0 25 [V.agg [V.sl y2 y3, V.sl y4 y5], V.int .i64 1048576]) fun x1 => asTup
 (some x1) fun x2 => PI.asInt .i64 x2[0]? fun x3 => bif decide (x3 < 0) then some (V.tup [V.bool true]) else need (O.R 0 26 [V.agg [V.sl y2 y3, V.sl y4 y5]]) fun x4 => asTup (some x4) fun x5 => asOsl
 x5[0]? fun x6 x7 => asOsl x5[1]? fun x8 x9 => need (O.R 0 21 [V.agg [V.sl x6 x7, V.sl x8 x9]]) fun x10 => asTup (some x10) fun x11 => PI.asInt .i64 x11[0]? fun x12 => PI.asInt .i64 x11[1]? fun x13 =>
 asSl x11[2]? fun x14 x15 => need (O.R 0 26 [V.agg [V.sl y2 y3, V.sl y4 y5]]) fun x16 => asTup (some x16) fun x17 => asOsl x17[0]? fun x18 x19 => asOsl x17[1]? fun x20 x21 => need (O.R 0 20 [V.agg
 [V.sl x18 x19, V.sl x20 x21]]) fun x22 => asTup (some x22) fun x23 => PI.asInt .i64 x23[0]? fun x24 => PI.asInt .i64 x23[1]? fun x25 => asOsl x23[2]? fun x26 x27 => need (O.R 0 11 [V.agg [V.int .i64
 x24, V.int .i64 x25, V.sl x26 x27], V.agg [V.int .i64 x12, V.int .i64 x13, V.sl x14 x15]]) fun x28 => asTup (some x28) fun x29 => PI.asBool x29[0]? fun x30 => bif !x30 then some (V.tup [V.bool false])
 else need (O.R 0 26 [V.agg [V.sl y2 y3, V.sl y4 y5]]) fun x31 => asTup (some x31) fun x32 => asOsl x32[0]? fun x33 x34 => asOsl x32[1]? fun x35 x36 => need (O.R 0 27 [V.agg [V.sl x18 x19, V.sl x20
 x21], V.agg [V.sl x33 x34, V.sl x35 x36]]) fun x37 => asTup (some x37) fun x38 => PI.asBool x38[0]? fun x39 => bif !x39 then some (V.tup [V.bool false]) else need (O.W 0 28 [0, 1] [V.agg [V.ref 0,
 V.ref 1], V.int .i64 1] [Ob.row 5 x18 x19 false, Ob.row 5 x20 x21 false]) fun x40 => asTup (some x40) fun x41 => PI.asInt .i64 x41[0]? fun x42 => asOsl x41[1]? fun x43 x44 => asOsl x41[2]? fun x45 x46
 => bif decide (x42 < 0) then some (V.tup [V.bool false]) else need (O.R 0 11 [V.agg [V.int .i64 x24, V.int .i64 x25, V.sl x26 x27], V.agg [V.int .i64 x12, V.int .i64 x13, V.sl x14 x15]]) fun x47 =>
 asTup (some x47) fun x48 => PI.asBool x48[0]? fun x49 => bif !x49 then some (V.tup [V.bool false]) else need (O.W 0 16 [0] [V.agg [V.int .i64 x24, V.int .i64 x25, V.ref 0], V.int .i64 1] [Ob.row 52
 x26 x27 false]) fun x50 => asTup (some x50) fun x51 => PI.asInt .i64 x51[0]? fun x52 => asOsl x51[1]? fun x53 x54 => need (O.R 0 17 [V.agg [V.int .i64 x24, V.int .i64 x25, V.sl x53 x54], V.int .i64
 1]) fun x55 => asTup (some x55) fun x56 => PI.asInt .i64 x56[0]? fun x57 => bif decide (x57 < 0) then some (V.tup [V.bool false]) else bif x57 != x52 then some (V.tup [V.bool false]) else need (O.R 0
 26 [V.agg [V.sl y2 y3, V.sl y4 y5]]) fun x58 => asTup (some x58) fun x59 => asOsl x59[0]? fun x60 x61 => asOsl x59[1]? fun x62 x63 => need (O.R 0 20 [V.agg [V.sl x60 x61, V.sl x62 x63]]) fun x64 =>
 asTup (some x64) fun x65 => PI.asInt .i64 x65[0]? fun x66 => PI.asInt .i64 x65[1]? fun x67 => asOsl x65[2]? fun x68 x69 => need (O.R 0 11 [V.agg [V.int .i64 x66, V.int .i64 x67, V.sl x68 x69], V.agg
 [V.int .i64 x12, V.int .i64 x13, V.sl x14 x15]]) fun x70 => asTup (some x70) fun x71 => PI.asBool x71[0]? fun x72 => bif !x72 then some (V.tup [V.bool false]) else need (O.R 0 17 [V.agg [V.int .i64
 x24, V.int .i64 x25, V.sl x53 x54], V.int .i64 1]) fun x73 => asTup (some x73) fun x74 => PI.asInt .i64 x74[0]? fun x75 => bif decide (x75 < 0) then some (V.tup [V.bool false]) else bif x75 != x52
 then some (V.tup [V.bool false]) else some (V.tup [V.bool true])
theorem e5 (k m q0 q1 : Nat) (y2 : Nat) (y3 : List V) (y4 : Nat) (y5 : List V) : runV C (k + 1) 5 [V.agg [V.sl y2 y3, V.sl y4 y5]] = T5 (orc C k) k m q0 q1 y2 y3 y4 y5 := by kernel_rfl
theorem E5 (y2 : Nat) (y3 : List V) (y4 : Nat) (y5 : List V) {r : V} (h : T5 (orcE C) 0 0 0 0 y2 y3 y4 y5 = some r) : runE C 5 [V.agg [V.sl y2 y3, V.sl y4 y5]] = some r := ofR (F := fun s => T5 (orc C
 s.k) s.k s.m 0 0 y2 y3 y4 y5) (fun k => e5 k k 0 0 y2 y3 y4 y5) (by
  unfold T5
  exact
    cN cR (fun _ => cT (fun _ => cI (fun _ => cF (cC) (cN cR (fun _ => cT (fun _ => cO (fun _ _ => cO (fun _ _ => cN cR (fun _ => cT (fun _ => cI (fun _ => cI (fun _ => cL (fun _ _ => cN cR (fun _ => cT
    (fun _ => cO (fun _ _ => cO (fun _ _ => cN cR (fun _ => cT (fun _ => cI (fun _ => cI (fun _ => cO (fun _ _ => cN cR (fun _ => cT (fun _ => cB (fun _ => cF (cC) (cN cR (fun _ => cT (fun _ => cO (fun
    _ _ => cO (fun _ _ => cN cR (fun _ => cT (fun _ => cB (fun _ => cF (cC) (cN cQ (fun _ => cT (fun _ => cI (fun _ => cO (fun _ _ => cO (fun _ _ => cF (cC) (cN cR (fun _ => cT (fun _ => cB (fun _ =>
    cF (cC) (cN cQ (fun _ => cT (fun _ => cI (fun _ => cO (fun _ _ => cN cR (fun _ => cT (fun _ => cI (fun _ => cF (cC) (cF (cC) (cN cR (fun _ => cT (fun _ => cO (fun _ _ => cO (fun _ _ => cN cR (fun _
    => cT (fun _ => cI (fun _ => cI (fun _ => cO (fun _ _ => cN cR (fun _ => cT (fun _ => cB (fun _ => cF (cC) (cN cR (fun _ => cT (fun _ => cI (fun _ => cF (cC) (cF (cC)
    (cC)))))))))))))))))))))))))))))))))))))))))))))))))))))))))))))))))))))))) h

noncomputable def T6 (O : Orc) (k m q0 q1 : Nat) (y1 : Int) (y2 : Nat) (y3 : List V) (y4 : Int) : Option V := need (O.R 0 29 [V.sl y2 y3, V.int .i64 y4]) fun x1 => asTup (some x1) fun x2 => PI.asInt
 .i64 x2[0]? fun x3 => bif decide (x3 < 0) then some (V.tup [V.int .i64 (-1)]) else some (V.tup [V.int .i64 x3])
theorem e6 (k m q0 q1 : Nat) (y1 : Int) (y2 : Nat) (y3 : List V) (y4 : Int) : runV C (k + 1) 6 [V.agg [V.int .i64 y1, V.sl y2 y3], V.int .i64 y4] = T6 (orc C k) k m q0 q1 y1 y2 y3 y4 := by kernel_rfl
theorem E6 (y1 : Int) (y2 : Nat) (y3 : List V) (y4 : Int) {r : V} (h : T6 (orcE C) 0 0 0 0 y1 y2 y3 y4 = some r) : runE C 6 [V.agg [V.int .i64 y1, V.sl y2 y3], V.int .i64 y4] = some r := ofR (F := fun
 s => T6 (orc C s.k) s.k s.m 0 0 y1 y2 y3 y4) (fun k => e6 k k 0 0 y1 y2 y3 y4) (by
  unfold T6
  exact
    cN cR (fun _ => cT (fun _ => cI (fun _ => cF (cC) (cC))))) h

noncomputable def T8 (O : Orc) (k m q0 q1 : Nat) (y1 : Int) (y2 : Nat) (y3 : List V) : Option V := need (O.R 0 34 [V.sl y2 y3]) fun x1 => asTup (some x1) fun x2 => asOsl x2[0]? fun x3 x4 => must (false
 || x4.all flatV) (some (V.tup [V.int .i64 y1, V.osl x3 x4]))
theorem e8 (k m q0 q1 : Nat) (y1 : Int) (y2 : Nat) (y3 : List V) : runV C (k + 1) 8 [V.agg [V.int .i64 y1, V.sl y2 y3]] = T8 (orc C k) k m q0 q1 y1 y2 y3 := by kernel_rfl
theorem E8 (y1 : Int) (y2 : Nat) (y3 : List V) {r : V} (h : T8 (orcE C) 0 0 0 0 y1 y2 y3 = some r) : runE C 8 [V.agg [V.int .i64 y1, V.sl y2 y3]] = some r := ofR (F := fun s => T8 (orc C s.k) s.k s.m 0
 0 y1 y2 y3) (fun k => e8 k k 0 0 y1 y2 y3) (by
  unfold T8
  exact
    cN cR (fun _ => cT (fun _ => cO (fun _ _ => cM ((cC)))))) h

noncomputable def T9 (O : Orc) (k m q0 q1 : Nat) (y1 : Nat) (y2 : List V) : Option V := must (decide ((↑y1 : Int) = (↑y1 : Int)) && decide (0 ≤ (↑y1 : Int)) && decide ((↑y1 : Int) ≤ 140737488355328) &&
 decide ((↑y1 : Int) * 1 ≤ 140737488355328)) (O.L 0 9 0 [true, true, false, true] [] k [(0, V.sl y1 y2), (3, V.ref 0), (4, V.int .i64 0)] [Ob.row 5 (↑y1 : Int).toNat (reps (↑y1 : Int).toNat [V.int .u8
 0]) false])
theorem e9 (k m q0 q1 : Nat) (y1 : Nat) (y2 : List V) : runV C (k + 1) 9 [V.sl y1 y2] = T9 (orc C k) k m q0 q1 y1 y2 := by kernel_rfl
theorem E9 (y1 : Nat) (y2 : List V) {r : V} (h : T9 (orcE C) 0 0 0 0 y1 y2 = some r) : runE C 9 [V.sl y1 y2] = some r := ofR (F := fun s => T9 (orc C s.k) s.k s.m 0 0 y1 y2) (fun k => e9 k k 0 0 y1 y2)
 (by
  unfold T9
  exact
    cM ((cD0 gK ))) h

noncomputable def T7 (O : Orc) (k m q0 q1 : Nat) (y1 : Int) (y2 : Nat) (y3 : List V) (y4 : Nat) (y5 : List V) : Option V := need (O.R 0 30 [V.agg [V.int .i64 y1, V.sl y2 y3]]) fun x1 => asTup (some x1)
 fun x2 => PI.asInt .i64 x2[0]? fun x3 => bif x3 != 0 then some (V.tup [V.int .i64 x3, V.int .i64 0, V.sl 0 []]) else need (O.R 0 31 [V.agg [V.int .i64 y1, V.sl y2 y3]]) fun x4 => asTup (some x4) fun
 x5 => PI.asInt .i64 x5[0]? fun x6 => asOsl x5[1]? fun x7 x8 => need (O.W 0 32 [] [V.ptr 0 0, V.sl y4 y5] [Ob.box 29 [V.int .i64 x6, V.ref 1] false, Ob.row 52 x7 x8 false]) fun x9 => asTup (some x9)
 fun x10 => PI.asInt .i64 x10[0]? fun x11 => PI.asInt .i64 x10[1]? fun x12 => asOsl x10[2]? fun x13 x14 => need (O.R 0 33 [V.agg [V.int .i64 x12, V.sl x13 x14], V.int .i64 x11]) fun x15 => asTup (some
 x15) fun x16 => PI.asInt .i64 x16[0]? fun x17 => PI.asInt .i64 x16[1]? fun x18 => asSl x16[2]? fun x19 x20 => some (V.tup [V.int .i64 x17, V.int .i64 x18, V.sl x19 x20])
theorem e7 (k m q0 q1 : Nat) (y1 : Int) (y2 : Nat) (y3 : List V) (y4 : Nat) (y5 : List V) : runV C (k + 1) 7 [V.agg [V.int .i64 y1, V.sl y2 y3], V.sl y4 y5] = T7 (orc C k) k m q0 q1 y1 y2 y3 y4 y5 :=
 by kernel_rfl
theorem E7 (y1 : Int) (y2 : Nat) (y3 : List V) (y4 : Nat) (y5 : List V) {r : V} (h : T7 (orcE C) 0 0 0 0 y1 y2 y3 y4 y5 = some r) : runE C 7 [V.agg [V.int .i64 y1, V.sl y2 y3], V.sl y4 y5] = some r :=
 ofR (F := fun s => T7 (orc C s.k) s.k s.m 0 0 y1 y2 y3 y4 y5) (fun k => e7 k k 0 0 y1 y2 y3 y4 y5) (by
  unfold T7
  exact
    cN cR (fun _ => cT (fun _ => cI (fun _ => cF (cC) (cN cR (fun _ => cT (fun _ => cI (fun _ => cO (fun _ _ => cN cQ (fun _ => cT (fun _ => cI (fun _ => cI (fun _ => cO (fun _ _ => cN cR (fun _ => cT (fun
    _ => cI (fun _ => cI (fun _ => cL (fun _ _ => cC))))))))))))))))))) h

noncomputable def T10 (O : Orc) (k m q0 q1 : Nat) (y1 : Int) (y2 : Nat) (y3 : List V) (y4 : Nat) (y5 : List V) : Option V := need (O.R 0 35 [V.agg [V.int .i64 y1, V.sl y2 y3], V.fn 36 [V.pin [V.sl y4
 y5] 0]]) fun x1 => asTup (some x1) fun x2 => PI.asInt .i64 x2[0]? fun x3 => PI.asInt .i64 x2[1]? fun x4 => asOsl x2[2]? fun x5 x6 => must (false || x6.all flatV) (some (V.tup [V.int .i64 x3, V.int
 .i64 x4, V.osl x5 x6]))
theorem e10 (k m q0 q1 : Nat) (y1 : Int) (y2 : Nat) (y3 : List V) (y4 : Nat) (y5 : List V) : runV C (k + 1) 10 [V.agg [V.int .i64 y1, V.sl y2 y3], V.sl y4 y5] = T10 (orc C k) k m q0 q1 y1 y2 y3 y4 y5
 := by kernel_rfl
theorem E10 (y1 : Int) (y2 : Nat) (y3 : List V) (y4 : Nat) (y5 : List V) {r : V} (h : T10 (orcE C) 0 0 0 0 y1 y2 y3 y4 y5 = some r) : runE C 10 [V.agg [V.int .i64 y1, V.sl y2 y3], V.sl y4 y5] = some r
 := ofR (F := fun s => T10 (orc C s.k) s.k s.m 0 0 y1 y2 y3 y4 y5) (fun k => e10 k k 0 0 y1 y2 y3 y4 y5) (by
  unfold T10
  exact
    cN cR (fun _ => cT (fun _ => cI (fun _ => cI (fun _ => cO (fun _ _ => cM ((cC)))))))) h

noncomputable def T11 (O : Orc) (k m q0 q1 : Nat) (y1 : Int) (y2 : Int) (y3 : Nat) (y4 : List V) (y5 : Int) (y6 : Int) (y7 : Nat) (y8 : List V) : Option V := bif y1 != y5 then some (V.tup [V.bool
 false]) else need (O.R 0 12 [V.agg [V.int .i64 y2, V.sl y3 y4], V.agg [V.int .i64 y6, V.sl y7 y8]]) fun x1 => asTup (some x1) fun x2 => PI.asBool x2[0]? fun x3 => bif !x3 then some (V.tup [V.bool
 false]) else some (V.tup [V.bool true])
theorem e11 (k m q0 q1 : Nat) (y1 : Int) (y2 : Int) (y3 : Nat) (y4 : List V) (y5 : Int) (y6 : Int) (y7 : Nat) (y8 : List V) : runV C (k + 1) 11 [V.agg [V.int .i64 y1, V.int .i64 y2, V.sl y3 y4], V.agg
 [V.int .i64 y5, V.int .i64 y6, V.sl y7 y8]] = T11 (orc C k) k m q0 q1 y1 y2 y3 y4 y5 y6 y7 y8 := by kernel_rfl
theorem E11 (y1 : Int) (y2 : Int) (y3 : Nat) (y4 : List V) (y5 : Int) (y6 : Int) (y7 : Nat) (y8 : List V) {r : V} (h : T11 (orcE C) 0 0 0 0 y1 y2 y3 y4 y5 y6 y7 y8 = some r) : runE C 11 [V.agg [V.int
 .i64 y1, V.int .i64 y2, V.sl y3 y4], V.agg [V.int .i64 y5, V.int .i64 y6, V.sl y7 y8]] = some r := ofR (F := fun s => T11 (orc C s.k) s.k s.m 0 0 y1 y2 y3 y4 y5 y6 y7 y8) (fun k => e11 k k 0 0 y1 y2
 y3 y4 y5 y6 y7 y8) (by
  unfold T11
  exact
    cF (cC) (cN cR (fun _ => cT (fun _ => cB (fun _ => cF (cC) (cC)))))) h

noncomputable def T12 (O : Orc) (k m q0 q1 : Nat) (y1 : Int) (y2 : Nat) (y3 : List V) (y4 : Int) (y5 : Nat) (y6 : List V) : Option V := bif y1 != y4 then some (V.tup [V.bool false]) else need (O.R 0 38
 [V.sl y2 y3, V.sl y5 y6]) fun x1 => asTup (some x1) fun x2 => PI.asBool x2[0]? fun x3 => bif !x3 then some (V.tup [V.bool false]) else some (V.tup [V.bool true])
theorem e12 (k m q0 q1 : Nat) (y1 : Int) (y2 : Nat) (y3 : List V) (y4 : Int) (y5 : Nat) (y6 : List V) : runV C (k + 1) 12 [V.agg [V.int .i64 y1, V.sl y2 y3], V.agg [V.int .i64 y4, V.sl y5 y6]] = T12
 (orc C k) k m q0 q1 y1 y2 y3 y4 y5 y6 := by kernel_rfl
theorem E12 (y1 : Int) (y2 : Nat) (y3 : List V) (y4 : Int) (y5 : Nat) (y6 : List V) {r : V} (h : T12 (orcE C) 0 0 0 0 y1 y2 y3 y4 y5 y6 = some r) : runE C 12 [V.agg [V.int .i64 y1, V.sl y2 y3], V.agg
 [V.int .i64 y4, V.sl y5 y6]] = some r := ofR (F := fun s => T12 (orc C s.k) s.k s.m 0 0 y1 y2 y3 y4 y5 y6) (fun k => e12 k k 0 0 y1 y2 y3 y4 y5 y6) (by
  unfold T12
  exact
    cF (cC) (cN cR (fun _ => cT (fun _ => cB (fun _ => cF (cC) (cC)))))) h

noncomputable def T13 (O : Orc) (k m q0 q1 : Nat) (y1 : Nat) (y2 : List V) (y3 : Nat) (y4 : List V) : Option V := bif (↑y1 : Int) != (↑y3 : Int) then some (V.tup [V.bool false]) else O.L 0 13 0 [true,
 true, false, true] [] k [(0, V.sl y1 y2), (1, V.sl y3 y4), (5, V.int .i64 0)] []
theorem e13 (k m q0 q1 : Nat) (y1 : Nat) (y2 : List V) (y3 : Nat) (y4 : List V) : runV C (k + 1) 13 [V.sl y1 y2, V.sl y3 y4] = T13 (orc C k) k m q0 q1 y1 y2 y3 y4 := by kernel_rfl
theorem E13 (y1 : Nat) (y2 : List V) (y3 : Nat) (y4 : List V) {r : V} (h : T13 (orcE C) 0 0 0 0 y1 y2 y3 y4 = some r) : runE C 13 [V.sl y1 y2, V.sl y3 y4] = some r := ofR (F := fun s => T13 (orc C s.k)
 s.k s.m 0 0 y1 y2 y3 y4) (fun k => e13 k k 0 0 y1 y2 y3 y4) (by
  unfold T13
  exact
    cF (cC) (cD0 gK )) h

noncomputable def T14 (O : Orc) (k m q0 q1 : Nat) (y1 : Int) (y2 : Int) (y3 : Nat) (y4 : List V) : Option V := need (O.W 0 39 [0] [V.ref 0, V.int .i64 y2] [Ob.row 52 y3 y4 false]) fun x1 => asTup (some
 x1) fun x2 => PI.asInt .i64 x2[0]? fun x3 => asOsl x2[1]? fun x4 x5 => must (false || x5.all flatV) (some (V.tup [V.int .i64 x3, V.osl x4 x5]))
theorem e14 (k m q0 q1 : Nat) (y1 : Int) (y2 : Int) (y3 : Nat) (y4 : List V) : runW C (k + 1) 14 [0] [V.agg [V.int .i64 y1, V.ref 0], V.int .i64 y2] [Ob.row 52 y3 y4 false] = T14 (orc C k) k m q0 q1 y1
 y2 y3 y4 := by kernel_rfl
theorem E14 (y1 : Int) (y2 : Int) (y3 : Nat) (y4 : List V) {r : V} (h : T14 (orcE C) 0 0 0 0 y1 y2 y3 y4 = some r) : runWE C 14 [0] [V.agg [V.int .i64 y1, V.ref 0], V.int .i64 y2] [Ob.row 52 y3 y4
 false] = some r := ofW (F := fun s => T14 (orc C s.k) s.k s.m 0 0 y1 y2 y3 y4) (fun k => e14 k k 0 0 y1 y2 y3 y4) (by
  unfold T14
  exact
    cN cQ (fun _ => cT (fun _ => cI (fun _ => cO (fun _ _ => cM ((cC))))))) h

noncomputable def T15 (O : Orc) (k m q0 q1 : Nat) (y1 : Int) (y2 : Nat) (y3 : List V) : Option V := O.X 0 15 [0] [Ob.row 5 0 [] false] 0 [true, false, true] [] k [(0, V.ref 0), (1, V.int .i64 y1), (5,
 V.int .i64 0)] [Ob.row 5 y2 y3 false]
theorem e15 (k m q0 q1 : Nat) (y1 : Int) (y2 : Nat) (y3 : List V) : runW C (k + 1) 15 [0] [V.ref 0, V.int .i64 y1] [Ob.row 5 y2 y3 false] = T15 (orc C k) k m q0 q1 y1 y2 y3 := by kernel_rfl
theorem E15 (y1 : Int) (y2 : Nat) (y3 : List V) {r : V} (h : T15 (orcE C) 0 0 0 0 y1 y2 y3 = some r) : runWE C 15 [0] [V.ref 0, V.int .i64 y1] [Ob.row 5 y2 y3 false] = some r := ofW (F := fun s => T15
 (orc C s.k) s.k s.m 0 0 y1 y2 y3) (fun k => e15 k k 0 0 y1 y2 y3) (by
  unfold T15
  exact
    cX0 gK ) h

noncomputable def T16 (O : Orc) (k m q0 q1 : Nat) (y1 : Int) (y2 : Int) (y3 : Int) (y4 : Nat) (y5 : List V) : Option V := need (O.W 0 14 [0] [V.agg [V.int .i64 y2, V.ref 0], V.int .i64 y3] [Ob.row 52
 y4 y5 false]) fun x1 => asTup (some x1) fun x2 => PI.asInt .i64 x2[0]? fun x3 => asOsl x2[1]? fun x4 x5 => must (false || x5.all flatV) (some (V.tup [V.int .i64 x3, V.osl x4 x5]))
theorem e16 (k m q0 q1 : Nat) (y1 : Int) (y2 : Int) (y3 : Int) (y4 : Nat) (y5 : List V) : runW C (k + 1) 16 [0] [V.agg [V.int .i64 y1, V.int .i64 y2, V.ref 0], V.int .i64 y3] [Ob.row 52 y4 y5 false] =
 T16 (orc C k) k m q0 q1 y1 y2 y3 y4 y5 := by kernel_rfl
theorem E16 (y1 : Int) (y2 : Int) (y3 : Int) (y4 : Nat) (y5 : List V) {r : V} (h : T16 (orcE C) 0 0 0 0 y1 y2 y3 y4 y5 = some r) : runWE C 16 [0] [V.agg [V.int .i64 y1, V.int .i64 y2, V.ref 0], V.int
 .i64 y3] [Ob.row 52 y4 y5 false] = some r := ofW (F := fun s => T16 (orc C s.k) s.k s.m 0 0 y1 y2 y3 y4 y5) (fun k => e16 k k 0 0 y1 y2 y3 y4 y5) (by
  unfold T16
  exact
    cN cQ (fun _ => cT (fun _ => cI (fun _ => cO (fun _ _ => cM ((cC))))))) h

noncomputable def T17 (O : Orc) (k m q0 q1 : Nat) (y1 : Int) (y2 : Int) (y3 : Nat) (y4 : List V) (y5 : Int) : Option V := need (O.R 0 40 [V.agg [V.int .i64 y2, V.sl y3 y4], V.int .i64 y5]) fun x1 =>
 asTup (some x1) fun x2 => PI.asInt .i64 x2[0]? fun x3 => bif decide (x3 < 0) then some (V.tup [V.int .i64 (-1)]) else some (V.tup [V.int .i64 x3])
theorem e17 (k m q0 q1 : Nat) (y1 : Int) (y2 : Int) (y3 : Nat) (y4 : List V) (y5 : Int) : runV C (k + 1) 17 [V.agg [V.int .i64 y1, V.int .i64 y2, V.sl y3 y4], V.int .i64 y5] = T17 (orc C k) k m q0 q1
 y1 y2 y3 y4 y5 := by kernel_rfl
theorem E17 (y1 : Int) (y2 : Int) (y3 : Nat) (y4 : List V) (y5 : Int) {r : V} (h : T17 (orcE C) 0 0 0 0 y1 y2 y3 y4 y5 = some r) : runE C 17 [V.agg [V.int .i64 y1, V.int .i64 y2, V.sl y3 y4], V.int
 .i64 y5] = some r := ofR (F := fun s => T17 (orc C s.k) s.k s.m 0 0 y1 y2 y3 y4 y5) (fun k => e17 k k 0 0 y1 y2 y3 y4 y5) (by
  unfold T17
  exact
    cN cR (fun _ => cT (fun _ => cI (fun _ => cF (cC) (cC))))) h

noncomputable def T25 (O : Orc) (k m q0 q1 : Nat) (y1 : Nat) (y2 : List V) (y3 : Nat) (y4 : List V) (y5 : Int) : Option V := need (O.R 0 50 [V.sl y1 y2, V.int .i64 y5]) fun x1 => asTup (some x1) fun x2
 => PI.asInt .i64 x2[0]? fun x3 => bif decide (x3 < 0) then some (V.tup [V.int .i64 (-1)]) else need (O.R 0 50 [V.sl y3 y4, V.int .i64 x3]) fun x4 => asTup (some x4) fun x5 => PI.asInt .i64 x5[0]? fun
 x6 => bif decide (x6 < 0) then some (V.tup [V.int .i64 (-1)]) else some (V.tup [V.int .i64 x6])
theorem e25 (k m q0 q1 : Nat) (y1 : Nat) (y2 : List V) (y3 : Nat) (y4 : List V) (y5 : Int) : runV C (k + 1) 25 [V.agg [V.sl y1 y2, V.sl y3 y4], V.int .i64 y5] = T25 (orc C k) k m q0 q1 y1 y2 y3 y4 y5
 := by kernel_rfl
theorem E25 (y1 : Nat) (y2 : List V) (y3 : Nat) (y4 : List V) (y5 : Int) {r : V} (h : T25 (orcE C) 0 0 0 0 y1 y2 y3 y4 y5 = some r) : runE C 25 [V.agg [V.sl y1 y2, V.sl y3 y4], V.int .i64 y5] = some r
 := ofR (F := fun s => T25 (orc C s.k) s.k s.m 0 0 y1 y2 y3 y4 y5) (fun k => e25 k k 0 0 y1 y2 y3 y4 y5) (by
  unfold T25
  exact
    cN cR (fun _ => cT (fun _ => cI (fun _ => cF (cC) (cN cR (fun _ => cT (fun _ => cI (fun _ => cF (cC) (cC))))))))) h

noncomputable def T26 (O : Orc) (k m q0 q1 : Nat) (y1 : Nat) (y2 : List V) (y3 : Nat) (y4 : List V) : Option V := need (O.R 0 9 [V.sl y1 y2]) fun x1 => asTup (some x1) fun x2 => asOsl x2[0]? fun x3 x4
 => need (O.R 0 9 [V.sl y3 y4]) fun x5 => asTup (some x5) fun x6 => asOsl x6[0]? fun x7 x8 => must (false || x4.all flatV) (must (false || x8.all flatV) (some (V.tup [V.osl x3 x4, V.osl x7 x8])))
theorem e26 (k m q0 q1 : Nat) (y1 : Nat) (y2 : List V) (y3 : Nat) (y4 : List V) : runV C (k + 1) 26 [V.agg [V.sl y1 y2, V.sl y3 y4]] = T26 (orc C k) k m q0 q1 y1 y2 y3 y4 := by kernel_rfl
theorem E26 (y1 : Nat) (y2 : List V) (y3 : Nat) (y4 : List V) {r : V} (h : T26 (orcE C) 0 0 0 0 y1 y2 y3 y4 = some r) : runE C 26 [V.agg [V.sl y1 y2, V.sl y3 y4]] = some r := ofR (F := fun s => T26
 (orc C s.k) s.k s.m 0 0 y1 y2 y3 y4) (fun k => e26 k k 0 0 y1 y2 y3 y4) (by
  unfold T26
  exact
    cN cR (fun _ => cT (fun _ => cO (fun _ _ => cN cR (fun _ => cT (fun _ => cO (fun _ _ => cM ((cM ((cC))))))))))) h

noncomputable def T21 (O : Orc) (k m q0 q1 : Nat) (y1 : Nat) (y2 : List V) (y3 : Nat) (y4 : List V) : Option V := need (O.R 0 24 [V.agg [V.sl y1 y2, V.sl y3 y4]]) fun x1 => asTup (some x1) fun x2 =>
 PI.asInt .i64 x2[0]? fun x3 => PI.asInt .i64 x2[1]? fun x4 => asSl x2[2]? fun x5 x6 => bif x3 != 0 then some (V.tup [V.int .i64 x3, V.int .i64 0, V.sl 0 []]) else need (O.R 0 43 [V.sl x5 x6]) fun x7
 => asTup (some x7) fun x8 => PI.asInt .i64 x8[0]? fun x9 => asSl x8[1]? fun x10 x11 => PI.asInt .i64 x8[2]? fun x12 => need (O.R 0 33 [V.agg [V.int .i64 x9, V.sl x10 x11], V.int .i64 x12]) fun x13 =>
 asTup (some x13) fun x14 => PI.asInt .i64 x14[0]? fun x15 => PI.asInt .i64 x14[1]? fun x16 => asSl x14[2]? fun x17 x18 => some (V.tup [V.int .i64 x15, V.int .i64 x16, V.sl x17 x18])
theorem e21 (k m q0 q1 : Nat) (y1 : Nat) (y2 : List V) (y3 : Nat) (y4 : List V) : runV C (k + 1) 21 [V.agg [V.sl y1 y2, V.sl y3 y4]] = T21 (orc C k) k m q0 q1 y1 y2 y3 y4 := by kernel_rfl
theorem E21 (y1 : Nat) (y2 : List V) (y3 : Nat) (y4 : List V) {r : V} (h : T21 (orcE C) 0 0 0 0 y1 y2 y3 y4 = some r) : runE C 21 [V.agg [V.sl y1 y2, V.sl y3 y4]] = some r := ofR (F := fun s => T21
 (orc C s.k) s.k s.m 0 0 y1 y2 y3 y4) (fun k => e21 k k 0 0 y1 y2 y3 y4) (by
  unfold T21
  exact
    cN cR (fun _ => cT (fun _ => cI (fun _ => cI (fun _ => cL (fun _ _ => cF (cC) (cN cR (fun _ => cT (fun _ => cI (fun _ => cL (fun _ _ => cI (fun _ => cN cR (fun _ => cT (fun _ => cI (fun _ => cI (fun _
    => cL (fun _ _ => cC))))))))))))))))) h

noncomputable def T20 (O : Orc) (k m q0 q1 : Nat) (y1 : Nat) (y2 : List V) (y3 : Nat) (y4 : List V) : Option V := need (O.R 0 22 [V.agg [V.sl y1 y2, V.sl y3 y4]]) fun x1 => asTup (some x1) fun x2 =>
 PI.asInt .i64 x2[0]? fun x3 => PI.asInt .i64 x2[1]? fun x4 => asSl x2[2]? fun x5 x6 => bif x3 != 0 then some (V.tup [V.int .i64 x3, V.int .i64 0, V.osl 0 []]) else O.L 0 20 0 [true, true, true, true,
 false, true] [] k [(2, V.ptr 0 0), (4, V.ptr 2 0), (18, V.sl x5 x6), (19, V.int .i64 (↑x5 : Int)), (20, V.int .i64 0)] [Ob.box 31 [V.int .i64 0, V.int .i64 0, V.ref 1] false, Ob.row 52 0 [] false,
 Ob.box 29 [V.int .i64 0, V.ref 3] false, Ob.row 52 0 [] false]
theorem e20 (k m q0 q1 : Nat) (y1 : Nat) (y2 : List V) (y3 : Nat) (y4 : List V) : runV C (k + 1) 20 [V.agg [V.sl y1 y2, V.sl y3 y4]] = T20 (orc C k) k m q0 q1 y1 y2 y3 y4 := by kernel_rfl
theorem E20 (y1 : Nat) (y2 : List V) (y3 : Nat) (y4 : List V) {r : V} (h : T20 (orcE C) 0 0 0 0 y1 y2 y3 y4 = some r) : runE C 20 [V.agg [V.sl y1 y2, V.sl y3 y4]] = some r := ofR (F := fun s => T20
 (orc C s.k) s.k s.m 0 0 y1 y2 y3 y4) (fun k => e20 k k 0 0 y1 y2 y3 y4) (by
  unfold T20
  exact
    cN cR (fun _ => cT (fun _ => cI (fun _ => cI (fun _ => cL (fun _ _ => cF (cC) (cD0 gK ))))))) h

noncomputable def T27 (O : Orc) (k m q0 q1 : Nat) (y1 : Nat) (y2 : List V) (y3 : Nat) (y4 : List V) (y5 : Nat) (y6 : List V) (y7 : Nat) (y8 : List V) : Option V := need (O.R 0 13 [V.sl y1 y2, V.sl y5
 y6]) fun x1 => asTup (some x1) fun x2 => PI.asBool x2[0]? fun x3 => bif !x3 then some (V.tup [V.bool false]) else need (O.R 0 13 [V.sl y3 y4, V.sl y7 y8]) fun x4 => asTup (some x4) fun x5 => PI.asBool
 x5[0]? fun x6 => bif !x6 then some (V.tup [V.bool false]) else some (V.tup [V.bool true])
theorem e27 (k m q0 q1 : Nat) (y1 : Nat) (y2 : List V) (y3 : Nat) (y4 : List V) (y5 : Nat) (y6 : List V) (y7 : Nat) (y8 : List V) : runV C (k + 1) 27 [V.agg [V.sl y1 y2, V.sl y3 y4], V.agg [V.sl y5 y6,
 V.sl y7 y8]] = T27 (orc C k) k m q0 q1 y1 y2 y3 y4 y5 y6 y7 y8 := by kernel_rfl
theorem E27 (y1 : Nat) (y2 : List V) (y3 : Nat) (y4 : List V) (y5 : Nat) (y6 : List V) (y7 : Nat) (y8 : List V) {r : V} (h : T27 (orcE C) 0 0 0 0 y1 y2 y3 y4 y5 y6 y7 y8 = some r) : runE C 27 [V.agg
 [V.sl y1 y2, V.sl y3 y4], V.agg [V.sl y5 y6, V.sl y7 y8]] = some r := ofR (F := fun s => T27 (orc C s.k) s.k s.m 0 0 y1 y2 y3 y4 y5 y6 y7 y8) (fun k => e27 k k 0 0 y1 y2 y3 y4 y5 y6 y7 y8) (by
  unfold T27
  exact
    cN cR (fun _ => cT (fun _ => cB (fun _ => cF (cC) (cN cR (fun _ => cT (fun _ => cB (fun _ => cF (cC) (cC))))))))) h

noncomputable def T28 (O : Orc) (k m q0 q1 : Nat) (y1 : Int) (y2 : Nat) (y3 : List V) (y4 : Nat) (y5 : List V) : Option V := need (O.W 0 15 [0] [V.ref 0, V.int .i64 y1] [Ob.row 5 y2 y3 false]) fun x1
 => asTup (some x1) fun x2 => PI.asInt .i64 x2[0]? fun x3 => asOsl x2[1]? fun x4 x5 => need (O.W 0 15 [0] [V.ref 0, V.int .i64 x3] [Ob.row 5 y4 y5 false]) fun x6 => asTup (some x6) fun x7 => PI.asInt
 .i64 x7[0]? fun x8 => asOsl x7[1]? fun x9 x10 => must (false || x5.all flatV) (must (false || x10.all flatV) (some (V.tup [V.int .i64 x8, V.osl x4 x5, V.osl x9 x10])))
theorem e28 (k m q0 q1 : Nat) (y1 : Int) (y2 : Nat) (y3 : List V) (y4 : Nat) (y5 : List V) : runW C (k + 1) 28 [0, 1] [V.agg [V.ref 0, V.ref 1], V.int .i64 y1] [Ob.row 5 y2 y3 false, Ob.row 5 y4 y5
 false] = T28 (orc C k) k m q0 q1 y1 y2 y3 y4 y5 := by kernel_rfl
theorem E28 (y1 : Int) (y2 : Nat) (y3 : List V) (y4 : Nat) (y5 : List V) {r : V} (h : T28 (orcE C) 0 0 0 0 y1 y2 y3 y4 y5 = some r) : runWE C 28 [0, 1] [V.agg [V.ref 0, V.ref 1], V.int .i64 y1] [Ob.row
 5 y2 y3 false, Ob.row 5 y4 y5 false] = some r := ofW (F := fun s => T28 (orc C s.k) s.k s.m 0 0 y1 y2 y3 y4 y5) (fun k => e28 k k 0 0 y1 y2 y3 y4 y5) (by
  unfold T28
  exact
    cN cQ (fun _ => cT (fun _ => cI (fun _ => cO (fun _ _ => cN cQ (fun _ => cT (fun _ => cI (fun _ => cO (fun _ _ => cM ((cM ((cC))))))))))))) h

noncomputable def T29 (O : Orc) (k m q0 q1 : Nat) (y1 : Nat) (y2 : List V) (y3 : Int) : Option V := bif decide (IntKind.i64.wrap (y3 - (↑y1 : Int)) < 0) then some (V.tup [V.int .i64 (-1)]) else some
 (V.tup [V.int .i64 (IntKind.i64.wrap (y3 - (↑y1 : Int)))])
theorem e29 (k m q0 q1 : Nat) (y1 : Nat) (y2 : List V) (y3 : Int) : runV C (k + 1) 29 [V.sl y1 y2, V.int .i64 y3] = T29 (orc C k) k m q0 q1 y1 y2 y3 := by kernel_rfl
theorem E29 (y1 : Nat) (y2 : List V) (y3 : Int) {r : V} (h : T29 (orcE C) 0 0 0 0 y1 y2 y3 = some r) : runE C 29 [V.sl y1 y2, V.int .i64 y3] = some r := ofR (F := fun s => T29 (orc C s.k) s.k s.m 0 0
 y1 y2 y3) (fun k => e29 k k 0 0 y1 y2 y3) (by
  unfold T29
  exact
    cF (cC) (cC)) h

noncomputable def T34 (O : Orc) (k m q0 q1 : Nat) (y1 : Nat) (y2 : List V) : Option V := must (decide ((↑y1 : Int) = (↑y1 : Int)) && decide (0 ≤ (↑y1 : Int)) && decide ((↑y1 : Int) ≤ 140737488355328)
 && decide ((↑y1 : Int) * 24 ≤ 140737488355328)) (O.L 0 34 0 [true, true, false, true] [] k [(0, V.sl y1 y2), (3, V.ref 0), (4, V.int .i64 0)] [Ob.row 52 (↑y1 : Int).toNat (reps (↑y1 : Int).toNat
 [V.int .i64 0, V.int .i64 0, V.int .i64 0]) false])
theorem e34 (k m q0 q1 : Nat) (y1 : Nat) (y2 : List V) : runV C (k + 1) 34 [V.sl y1 y2] = T34 (orc C k) k m q0 q1 y1 y2 := by kernel_rfl
theorem E34 (y1 : Nat) (y2 : List V) {r : V} (h : T34 (orcE C) 0 0 0 0 y1 y2 = some r) : runE C 34 [V.sl y1 y2] = some r := ofR (F := fun s => T34 (orc C s.k) s.k s.m 0 0 y1 y2) (fun k => e34 k k 0 0
 y1 y2) (by
  unfold T34
  exact
    cM ((cD0 gK ))) h

noncomputable def T9l1 (O : Orc) (k m q0 q1 : Nat) (y1 : Nat) (y2 : List V) (y3 : Int) (y4 : Nat) (y5 : List V) : Option V := bif decide (y3 < (↑y1 : Int)) then must (inB y3 y1) (PI.asInt .u8
 y2[y3.toNat * 1]? fun x1 => must (inB y3 y4) (must ([V.int .u8 x1].length.beq 1 && (y3.toNat * 1 + [V.int .u8 x1].length).ble y5.length) (O.L 0 9 0 [true, true, false, true] [] m [(0, V.sl y1 y2), (3,
 V.ref 0), (4, V.int .i64 (IntKind.i64.wrap (y3 + 1)))] [Ob.row 5 y4 (splice y5 (y3.toNat * 1) [V.int .u8 x1]) false]))) else must (false || y5.all flatV) (some (V.tup [V.osl y4 y5]))
theorem e9l1 (k m q0 q1 : Nat) (y1 : Nat) (y2 : List V) (y3 : Int) (y4 : Nat) (y5 : List V) : runL C k 9 0 [true, true, false, true] [] (m + 1) [(0, V.sl y1 y2), (3, V.ref 0), (4, V.int .i64 y3)]
 [Ob.row 5 y4 y5 false] = T9l1 (orc C k) k m q0 q1 y1 y2 y3 y4 y5 := by kernel_rfl
theorem E9l1 (y1 : Nat) (y2 : List V) (y3 : Int) (y4 : Nat) (y5 : List V) {r : V} (h : T9l1 (orcE C) 0 0 0 0 y1 y2 y3 y4 y5 = some r) : loopE C 9 0 [true, true, false, true] [] [(0, V.sl y1 y2), (3,
 V.ref 0), (4, V.int .i64 y3)] [Ob.row 5 y4 y5 false] = some r := ofL (j := 0) (F := fun s => T9l1 (orc C s.k) s.k s.m 0 0 y1 y2 y3 y4 y5) (fs0 fun k m => e9l1 k m 0 0 y1 y2 y3 y4 y5) (by
  unfold T9l1
  exact
    cF (cM ((cI (fun _ => cM ((cM ((cD0 gM )))))))) (cM ((cC)))) h

noncomputable def T30 (O : Orc) (k m q0 q1 : Nat) (y1 : Int) (y2 : Nat) (y3 : List V) : Option V := need (O.R 0 51 [V.int .i64 y1, V.int .i64 0, V.int .i64 1000000]) fun x1 => asTup (some x1) fun x2 =>
 PI.asBool x2[0]? fun x3 => bif !x3 then some (V.tup [V.int .i64 3]) else bif decide ((↑y2 : Int) > 12) then some (V.tup [V.int .i64 2]) else O.L 0 30 0 [true, true, true, false, true] [] k [(1, V.ptr
 0 0), (3, V.int .i64 0)] [Ob.box 29 [V.int .i64 y1, V.sl y2 y3] false]
theorem e30 (k m q0 q1 : Nat) (y1 : Int) (y2 : Nat) (y3 : List V) : runV C (k + 1) 30 [V.agg [V.int .i64 y1, V.sl y2 y3]] = T30 (orc C k) k m q0 q1 y1 y2 y3 := by kernel_rfl
theorem E30 (y1 : Int) (y2 : Nat) (y3 : List V) {r : V} (h : T30 (orcE C) 0 0 0 0 y1 y2 y3 = some r) : runE C 30 [V.agg [V.int .i64 y1, V.sl y2 y3]] = some r := ofR (F := fun s => T30 (orc C s.k) s.k
 s.m 0 0 y1 y2 y3) (fun k => e30 k k 0 0 y1 y2 y3) (by
  unfold T30
  exact
    cN cR (fun _ => cT (fun _ => cB (fun _ => cF (cC) (cF (cC) (cD0 gK )))))) h

noncomputable def T31 (O : Orc) (k m q0 q1 : Nat) (y1 : Int) (y2 : Nat) (y3 : List V) : Option V := must (decide (y3.length = y2 * 3)) (must (true && (0 + y2).ble 140737488355328 && ((0 + y2) * 24).ble
 140737488355328) (must (false || y3.all flatV) (some (V.tup [V.int .i64 y1, V.osl (0 + y2) y3]))))
theorem e31 (k m q0 q1 : Nat) (y1 : Int) (y2 : Nat) (y3 : List V) : runV C (k + 1) 31 [V.agg [V.int .i64 y1, V.sl y2 y3]] = T31 (orc C k) k m q0 q1 y1 y2 y3 := by kernel_rfl
theorem E31 (y1 : Int) (y2 : Nat) (y3 : List V) {r : V} (h : T31 (orcE C) 0 0 0 0 y1 y2 y3 = some r) : runE C 31 [V.agg [V.int .i64 y1, V.sl y2 y3]] = some r := ofR (F := fun s => T31 (orc C s.k) s.k
 s.m 0 0 y1 y2 y3) (fun k => e31 k k 0 0 y1 y2 y3) (by
  unfold T31
  exact
    cM ((cM ((cM ((cC))))))) h

noncomputable def T32 (O : Orc) (k m q0 q1 : Nat) (y1 : Nat) (y2 : List V) (y3 : Int) (y4 : Nat) (y5 : List V) : Option V := bif (↑y1 : Int) != 8 then bif (↑y1 : Int) != 15 then must (false || y5.all
 flatV) (some (V.tup [V.int .i64 5, V.int .i64 y3, V.osl y4 y5])) else must (inB 0 y1) (PI.asInt .u8 y2[0]? fun x1 => must (true && decide (8 ≤ (↑y1 : Int))) (need (O.R 0 52 [V.sl 7 (List.take 7
 (List.drop 1 y2))]) fun x2 => asTup (some x2) fun x3 => PI.asInt .i64 x3[0]? fun x4 => must (true && decide (8 ≤ (↑y1 : Int))) (need (O.R 0 52 [V.sl (y1 - 8) (List.take ((y1 - 8) * 1) (List.drop 8
 y2))]) fun x5 => asTup (some x5) fun x6 => PI.asInt .i64 x6[0]? fun x7 => need (O.R 0 53 [V.int .i64 (IntKind.i64.wrap x1), V.int .i64 x4, V.int .i64 x7]) fun x8 => asTup (some x8) fun x9 => PI.asInt
 .i64 x9[0]? fun x10 => asSl x9[1]? fun x11 x12 => bif x10 != 0 then must (false || y5.all flatV) (some (V.tup [V.int .i64 5, V.int .i64 y3, V.osl y4 y5])) else need (O.R 0 54 [V.sl x11 x12, V.sl y1
 y2]) fun x13 => asTup (some x13) fun x14 => PI.asBool x14[0]? fun x15 => bif !x15 then must (false || y5.all flatV) (some (V.tup [V.int .i64 5, V.int .i64 y3, V.osl y4 y5])) else bif IntKind.i64.wrap
 x1 == 1 then need (O.W 0 55 [] [V.ptr 0 0, V.int .i64 x4] [Ob.box 29 [V.int .i64 y3, V.ref 1] false, Ob.row 52 y4 y5 false]) fun x16 => asTup (some x16) fun x17 => PI.asInt .i64 x17[0]? fun x18 =>
 PI.asInt .i64 x17[1]? fun x19 => asOsl x17[2]? fun x20 x21 => must (false || x21.all flatV) (some (V.tup [V.int .i64 x18, V.int .i64 x19, V.osl x20 x21])) else bif IntKind.i64.wrap x1 == 2 then need
 (O.W 0 56 [] [V.ptr 0 0, V.int .i64 x4, V.int .i64 x7] [Ob.box 29 [V.int .i64 y3, V.ref 1] false, Ob.row 52 y4 y5 false]) fun x22 => asTup (some x22) fun x23 => PI.asInt .i64 x23[0]? fun x24 =>
 PI.asInt .i64 x23[1]? fun x25 => asOsl x23[2]? fun x26 x27 => must (false || x27.all flatV) (some (V.tup [V.int .i64 x24, V.int .i64 x25, V.osl x26 x27])) else need (O.W 0 57 [] [V.ptr 0 0, V.int .i64
 x4] [Ob.box 29 [V.int .i64 y3, V.ref 1] false, Ob.row 52 y4 y5 false]) fun x28 => asTup (some x28) fun x29 => PI.asInt .i64 x29[0]? fun x30 => PI.asInt .i64 x29[1]? fun x31 => asOsl x29[2]? fun x32
 x33 => must (false || x33.all flatV) (some (V.tup [V.int .i64 x30, V.int .i64 x31, V.osl x32 x33]))))) else must (inB 0 y1) (PI.asInt .u8 y2[0]? fun x34 => must (true && decide (8 ≤ (↑y1 : Int)))
 (need (O.R 0 52 [V.sl 7 (List.take 7 (List.drop 1 y2))]) fun x35 => asTup (some x35) fun x36 => PI.asInt .i64 x36[0]? fun x37 => must (true && decide (8 ≤ (↑y1 : Int))) (need (O.R 0 52 [V.sl (y1 - 8)
 (List.take ((y1 - 8) * 1) (List.drop 8 y2))]) fun x38 => asTup (some x38) fun x39 => PI.asInt .i64 x39[0]? fun x40 => need (O.R 0 53 [V.int .i64 (IntKind.i64.wrap x34), V.int .i64 x37, V.int .i64
 x40]) fun x41 => asTup (some x41) fun x42 => PI.asInt .i64 x42[0]? fun x43 => asSl x42[1]? fun x44 x45 => bif x43 != 0 then must (false || y5.all flatV) (some (V.tup [V.int .i64 5, V.int .i64 y3,
 V.osl y4 y5])) else need (O.R 0 54 [V.sl x44 x45, V.sl y1 y2]) fun x46 => asTup (some x46) fun x47 => PI.asBool x47[0]? fun x48 => bif !x48 then must (false || y5.all flatV) (some (V.tup [V.int .i64
 5, V.int .i64 y3, V.osl y4 y5])) else bif IntKind.i64.wrap x34 == 1 then need (O.W 0 55 [] [V.ptr 0 0, V.int .i64 x37] [Ob.box 29 [V.int .i64 y3, V.ref 1] false, Ob.row 52 y4 y5 false]) fun x49 =>
 asTup (some x49) fun x50 => PI.asInt .i64 x50[0]? fun x51 => PI.asInt .i64 x50[1]? fun x52 => asOsl x50[2]? fun x53 x54 => must (false || x54.all flatV) (some (V.tup [V.int .i64 x51, V.int .i64 x52,
 V.osl x53 x54])) else bif IntKind.i64.wrap x34 == 2 then need (O.W 0 56 [] [V.ptr 0 0, V.int .i64 x37, V.int .i64 x40] [Ob.box 29 [V.int .i64 y3, V.ref 1] false, Ob.row 52 y4 y5 false]) fun x55 =>
 asTup (some x55) fun x56 => PI.asInt .i64 x56[0]? fun x57 => PI.asInt .i64 x56[1]? fun x58 => asOsl x56[2]? fun x59 x60 => must (false || x60.all flatV) (some (V.tup [V.int .i64 x57, V.int .i64 x58,
 V.osl x59 x60])) else need (O.W 0 57 [] [V.ptr 0 0, V.int .i64 x37] [Ob.box 29 [V.int .i64 y3, V.ref 1] false, Ob.row 52 y4 y5 false]) fun x61 => asTup (some x61) fun x62 => PI.asInt .i64 x62[0]? fun
 x63 => PI.asInt .i64 x62[1]? fun x64 => asOsl x62[2]? fun x65 x66 => must (false || x66.all flatV) (some (V.tup [V.int .i64 x63, V.int .i64 x64, V.osl x65 x66])))))
theorem e32 (k m q0 q1 : Nat) (y1 : Nat) (y2 : List V) (y3 : Int) (y4 : Nat) (y5 : List V) : runW C (k + 1) 32 [] [V.ptr 0 0, V.sl y1 y2] [Ob.box 29 [V.int .i64 y3, V.ref 1] false, Ob.row 52 y4 y5
 false] = T32 (orc C k) k m q0 q1 y1 y2 y3 y4 y5 := by kernel_rfl
theorem E32 (y1 : Nat) (y2 : List V) (y3 : Int) (y4 : Nat) (y5 : List V) {r : V} (h : T32 (orcE C) 0 0 0 0 y1 y2 y3 y4 y5 = some r) : runWE C 32 [] [V.ptr 0 0, V.sl y1 y2] [Ob.box 29 [V.int .i64 y3,
 V.ref 1] false, Ob.row 52 y4 y5 false] = some r := ofW (F := fun s => T32 (orc C s.k) s.k s.m 0 0 y1 y2 y3 y4 y5) (fun k => e32 k k 0 0 y1 y2 y3 y4 y5) (by
  unfold T32
  exact
    cF (cF (cM ((cC))) (cM ((cI (fun _ => cM ((cN cR (fun _ => cT (fun _ => cI (fun _ => cM ((cN cR (fun _ => cT (fun _ => cI (fun _ => cN cR (fun _ => cT (fun _ => cI (fun _ => cL (fun _ _ => cF (cM
    ((cC))) (cN cR (fun _ => cT (fun _ => cB (fun _ => cF (cM ((cC))) (cF (cN cQ (fun _ => cT (fun _ => cI (fun _ => cI (fun _ => cO (fun _ _ => cM ((cC)))))))) (cF (cN cQ (fun _ => cT (fun _ => cI
    (fun _ => cI (fun _ => cO (fun _ _ => cM ((cC)))))))) (cN cQ (fun _ => cT (fun _ => cI (fun _ => cI (fun _ => cO (fun _ _ => cM ((cC))))))))))))))))))))))))))))))))) (cM ((cI (fun _ => cM ((cN cR
    (fun _ => cT (fun _ => cI (fun _ => cM ((cN cR (fun _ => cT (fun _ => cI (fun _ => cN cR (fun _ => cT (fun _ => cI (fun _ => cL (fun _ _ => cF (cM ((cC))) (cN cR (fun _ => cT (fun _ => cB (fun _ =>
    cF (cM ((cC))) (cF (cN cQ (fun _ => cT (fun _ => cI (fun _ => cI (fun _ => cO (fun _ _ => cM ((cC)))))))) (cF (cN cQ (fun _ => cT (fun _ => cI (fun _ => cI (fun _ => cO (fun _ _ => cM ((cC))))))))
    (cN cQ (fun _ => cT (fun _ => cI (fun _ => cI (fun _ => cO (fun _ _ => cM ((cC))))))))))))))))))))))))))))))))) h

noncomputable def T33 (O : Orc) (k m q0 q1 : Nat) (y1 : Int) (y2 : Nat) (y3 : List V) (y4 : Int) : Option V := bif y4 != 0 then some (V.tup [V.int .i64 y4, V.int .i64 0, V.sl 0 []]) else some (V.tup
 [V.int .i64 0, V.int .i64 y1, V.sl y2 y3])
theorem e33 (k m q0 q1 : Nat) (y1 : Int) (y2 : Nat) (y3 : List V) (y4 : Int) : runV C (k + 1) 33 [V.agg [V.int .i64 y1, V.sl y2 y3], V.int .i64 y4] = T33 (orc C k) k m q0 q1 y1 y2 y3 y4 := by
 kernel_rfl
theorem E33 (y1 : Int) (y2 : Nat) (y3 : List V) (y4 : Int) {r : V} (h : T33 (orcE C) 0 0 0 0 y1 y2 y3 y4 = some r) : runE C 33 [V.agg [V.int .i64 y1, V.sl y2 y3], V.int .i64 y4] = some r := ofR (F :=
 fun s => T33 (orc C s.k) s.k s.m 0 0 y1 y2 y3 y4) (fun k => e33 k k 0 0 y1 y2 y3 y4) (by
  unfold T33
  exact
    cF (cC) (cC)) h

noncomputable def T35 (O : Orc) (k m q0 q1 : Nat) (y1 : Int) (y2 : Nat) (y3 : List V) (y4 : Nat) (y5 : List V) : Option V := need (O.R 0 23 [V.agg [V.int .i64 y1, V.sl y2 y3]]) fun x1 => asTup (some
 x1) fun x2 => PI.asInt .i64 x2[0]? fun x3 => bif x3 != 0 then some (V.tup [V.int .i64 x3, V.int .i64 0, V.osl 0 []]) else need (O.R 0 59 [V.agg [V.int .i64 y1, V.sl y2 y3]]) fun x4 => asTup (some x4)
 fun x5 => PI.asInt .i64 x5[0]? fun x6 => asOsl x5[1]? fun x7 x8 => need (O.W 0 36 [] [V.ptr 0 0, V.pin [V.sl y4 y5] 0] [Ob.box 29 [V.int .i64 x6, V.ref 1] false, Ob.row 52 x7 x8 false]) fun x9 =>
 asTup (some x9) fun x10 => PI.asInt .i64 x10[0]? fun x11 => PI.asInt .i64 x10[1]? fun x12 => asOsl x10[2]? fun x13 x14 => bif x11 != 0 then some (V.tup [V.int .i64 x11, V.int .i64 0, V.osl 0 []]) else
 must (false || x14.all flatV) (some (V.tup [V.int .i64 0, V.int .i64 x12, V.osl x13 x14]))
theorem e35 (k m q0 q1 : Nat) (y1 : Int) (y2 : Nat) (y3 : List V) (y4 : Nat) (y5 : List V) : runV C (k + 1) 35 [V.agg [V.int .i64 y1, V.sl y2 y3], V.fn 36 [V.pin [V.sl y4 y5] 0]] = T35 (orc C k) k m q0
 q1 y1 y2 y3 y4 y5 := by kernel_rfl
theorem E35 (y1 : Int) (y2 : Nat) (y3 : List V) (y4 : Nat) (y5 : List V) {r : V} (h : T35 (orcE C) 0 0 0 0 y1 y2 y3 y4 y5 = some r) : runE C 35 [V.agg [V.int .i64 y1, V.sl y2 y3], V.fn 36 [V.pin [V.sl
 y4 y5] 0]] = some r := ofR (F := fun s => T35 (orc C s.k) s.k s.m 0 0 y1 y2 y3 y4 y5) (fun k => e35 k k 0 0 y1 y2 y3 y4 y5) (by
  unfold T35
  exact
    cN cR (fun _ => cT (fun _ => cI (fun _ => cF (cC) (cN cR (fun _ => cT (fun _ => cI (fun _ => cO (fun _ _ => cN cQ (fun _ => cT (fun _ => cI (fun _ => cI (fun _ => cO (fun _ _ => cF (cC) (cM
    ((cC))))))))))))))))) h

noncomputable def T38 (O : Orc) (k m q0 q1 : Nat) (y1 : Nat) (y2 : List V) (y3 : Nat) (y4 : List V) : Option V := bif (↑y1 : Int) != (↑y3 : Int) then some (V.tup [V.bool false]) else O.L 0 38 0 [true,
 true, false, true] [] k [(0, V.sl y1 y2), (1, V.sl y3 y4), (5, V.int .i64 0)] []
theorem e38 (k m q0 q1 : Nat) (y1 : Nat) (y2 : List V) (y3 : Nat) (y4 : List V) : runV C (k + 1) 38 [V.sl y1 y2, V.sl y3 y4] = T38 (orc C k) k m q0 q1 y1 y2 y3 y4 := by kernel_rfl
theorem E38 (y1 : Nat) (y2 : List V) (y3 : Nat) (y4 : List V) {r : V} (h : T38 (orcE C) 0 0 0 0 y1 y2 y3 y4 = some r) : runE C 38 [V.sl y1 y2, V.sl y3 y4] = some r := ofR (F := fun s => T38 (orc C s.k)
 s.k s.m 0 0 y1 y2 y3 y4) (fun k => e38 k k 0 0 y1 y2 y3 y4) (by
  unfold T38
  exact
    cF (cC) (cD0 gK )) h

noncomputable def T13l1 (O : Orc) (k m q0 q1 : Nat) (y1 : Nat) (y2 : List V) (y3 : Nat) (y4 : List V) (y5 : Int) : Option V := bif decide (y5 < (↑y1 : Int)) then must (inB y5 y1) (PI.asInt .u8
 y2[y5.toNat * 1]? fun x1 => must (inB y5 y3) (PI.asInt .u8 y4[y5.toNat * 1]? fun x2 => bif x1 != x2 then some (V.tup [V.bool false]) else O.L 0 13 0 [true, true, false, true] [] m [(0, V.sl y1 y2),
 (1, V.sl y3 y4), (5, V.int .i64 (IntKind.i64.wrap (y5 + 1)))] [])) else some (V.tup [V.bool true])
theorem e13l1 (k m q0 q1 : Nat) (y1 : Nat) (y2 : List V) (y3 : Nat) (y4 : List V) (y5 : Int) : runL C k 13 0 [true, true, false, true] [] (m + 1) [(0, V.sl y1 y2), (1, V.sl y3 y4), (5, V.int .i64 y5)]
 [] = T13l1 (orc C k) k m q0 q1 y1 y2 y3 y4 y5 := by kernel_rfl
theorem E13l1 (y1 : Nat) (y2 : List V) (y3 : Nat) (y4 : List V) (y5 : Int) {r : V} (h : T13l1 (orcE C) 0 0 0 0 y1 y2 y3 y4 y5 = some r) : loopE C 13 0 [true, true, false, true] [] [(0, V.sl y1 y2), (1,
 V.sl y3 y4), (5, V.int .i64 y5)] [] = some r := ofL (j := 0) (F := fun s => T13l1 (orc C s.k) s.k s.m 0 0 y1 y2 y3 y4 y5) (fs0 fun k m => e13l1 k m 0 0 y1 y2 y3 y4 y5) (by
  unfold T13l1
  exact
    cF (cM ((cI (fun _ => cM ((cI (fun _ => cF (cC) (cD0 gM )))))))) (cC)) h

noncomputable def T39 (O : Orc) (k m q0 q1 : Nat) (y1 : Int) (y2 : Nat) (y3 : List V) : Option V := O.X 0 39 [0] [Ob.row 52 0 [] false] 0 [true, false, true] [] k [(0, V.ref 0), (1, V.int .i64 y1), (5,
 V.int .i64 0)] [Ob.row 52 y2 y3 false]
theorem e39 (k m q0 q1 : Nat) (y1 : Int) (y2 : Nat) (y3 : List V) : runW C (k + 1) 39 [0] [V.ref 0, V.int .i64 y1] [Ob.row 52 y2 y3 false] = T39 (orc C k) k m q0 q1 y1 y2 y3 := by kernel_rfl
theorem E39 (y1 : Int) (y2 : Nat) (y3 : List V) {r : V} (h : T39 (orcE C) 0 0 0 0 y1 y2 y3 = some r) : runWE C 39 [0] [V.ref 0, V.int .i64 y1] [Ob.row 52 y2 y3 false] = some r := ofW (F := fun s => T39
 (orc C s.k) s.k s.m 0 0 y1 y2 y3) (fun k => e39 k k 0 0 y1 y2 y3) (by
  unfold T39
  exact
    cX0 gK ) h

noncomputable def T15l1 (O : Orc) (k m q0 q1 : Nat) (y1 : Int) (y2 : Int) (y3 : Nat) (y4 : List V) : Option V := bif decide (y2 < (↑y3 : Int)) then must (inB y2 y3) (must ([V.int .u8 (IntKind.u8.wrap
 y1)].length.beq 1 && (y2.toNat * 1 + [V.int .u8 (IntKind.u8.wrap y1)].length).ble y4.length) (O.X 0 15 [0] [Ob.row 5 0 [] false] 0 [true, false, true] [] m [(0, V.ref 0), (1, V.int .i64
 (IntKind.i64.wrap (y1 + 1))), (5, V.int .i64 (IntKind.i64.wrap (y2 + 1)))] [Ob.row 5 y3 (splice y4 (y2.toNat * 1) [V.int .u8 (IntKind.u8.wrap y1)]) false])) else must (false || y4.all flatV) (some
 (V.tup [V.int .i64 y1, V.osl y3 y4]))
theorem e15l1 (k m q0 q1 : Nat) (y1 : Int) (y2 : Int) (y3 : Nat) (y4 : List V) : runLW C k 15 [0] [Ob.row 5 0 [] false] 0 [true, false, true] [] (m + 1) [(0, V.ref 0), (1, V.int .i64 y1), (5, V.int
 .i64 y2)] [Ob.row 5 y3 y4 false] = T15l1 (orc C k) k m q0 q1 y1 y2 y3 y4 := by kernel_rfl
theorem E15l1 (y1 : Int) (y2 : Int) (y3 : Nat) (y4 : List V) {r : V} (h : T15l1 (orcE C) 0 0 0 0 y1 y2 y3 y4 = some r) : loopWE C 15 [0] [Ob.row 5 0 [] false] 0 [true, false, true] [] [(0, V.ref 0),
 (1, V.int .i64 y1), (5, V.int .i64 y2)] [Ob.row 5 y3 y4 false] = some r := ofX (j := 0) (F := fun s => T15l1 (orc C s.k) s.k s.m 0 0 y1 y2 y3 y4) (fs0 fun k m => e15l1 k m 0 0 y1 y2 y3 y4) (by
  unfold T15l1
  exact
    cF (cM ((cM ((cX0 gM ))))) (cM ((cC)))) h

noncomputable def T40 (O : Orc) (k m q0 q1 : Nat) (y1 : Int) (y2 : Nat) (y3 : List V) (y4 : Int) : Option V := need (O.R 0 65 [V.sl y2 y3, V.int .i64 y4]) fun x1 => asTup (some x1) fun x2 => PI.asInt
 .i64 x2[0]? fun x3 => bif decide (x3 < 0) then some (V.tup [V.int .i64 (-1)]) else some (V.tup [V.int .i64 x3])
theorem e40 (k m q0 q1 : Nat) (y1 : Int) (y2 : Nat) (y3 : List V) (y4 : Int) : runV C (k + 1) 40 [V.agg [V.int .i64 y1, V.sl y2 y3], V.int .i64 y4] = T40 (orc C k) k m q0 q1 y1 y2 y3 y4 := by
 kernel_rfl
theorem E40 (y1 : Int) (y2 : Nat) (y3 : List V) (y4 : Int) {r : V} (h : T40 (orcE C) 0 0 0 0 y1 y2 y3 y4 = some r) : runE C 40 [V.agg [V.int .i64 y1, V.sl y2 y3], V.int .i64 y4] = some r := ofR (F :=
 fun s => T40 (orc C s.k) s.k s.m 0 0 y1 y2 y3 y4) (fun k => e40 k k 0 0 y1 y2 y3 y4) (by
  unfold T40
  exact
    cN cR (fun _ => cT (fun _ => cI (fun _ => cF (cC) (cC))))) h

noncomputable def T50 (O : Orc) (k m q0 q1 : Nat) (y1 : Nat) (y2 : List V) (y3 : Int) : Option V := bif decide (IntKind.i64.wrap (y3 - (↑y1 : Int)) < 0) then some (V.tup [V.int .i64 (-1)]) else some
 (V.tup [V.int .i64 (IntKind.i64.wrap (y3 - (↑y1 : Int)))])
theorem e50 (k m q0 q1 : Nat) (y1 : Nat) (y2 : List V) (y3 : Int) : runV C (k + 1) 50 [V.sl y1 y2, V.int .i64 y3] = T50 (orc C k) k m q0 q1 y1 y2 y3 := by kernel_rfl
theorem E50 (y1 : Nat) (y2 : List V) (y3 : Int) {r : V} (h : T50 (orcE C) 0 0 0 0 y1 y2 y3 = some r) : runE C 50 [V.sl y1 y2, V.int .i64 y3] = some r := ofR (F := fun s => T50 (orc C s.k) s.k s.m 0 0
 y1 y2 y3) (fun k => e50 k k 0 0 y1 y2 y3) (by
  unfold T50
  exact
    cF (cC) (cC)) h

noncomputable def T24 (O : Orc) (k m q0 q1 : Nat) (y1 : Nat) (y2 : List V) (y3 : Nat) (y4 : List V) : Option V := need (O.R 0 48 [V.agg [V.sl y1 y2, V.sl y3 y4]]) fun x1 => asTup (some x1) fun x2 =>
 PI.asInt .i64 x2[0]? fun x3 => bif x3 != 0 then some (V.tup [V.int .i64 x3, V.int .i64 0, V.sl 0 []]) else must (decide (y2.length = y1 * 1)) (must (true && (0 + y1).ble 140737488355328 && ((0 + y1) *
 1).ble 140737488355328) (must (decide (y4.length = y3 * 1)) (must (true && (0 + y1 + y3).ble 140737488355328 && ((0 + y1 + y3) * 1).ble 140737488355328) (need (O.R 0 49 [V.sl (0 + y1 + y3) (y2 ++
 y4)]) fun x4 => asTup (some x4) fun x5 => PI.asInt .i64 x5[0]? fun x6 => PI.asInt .i64 x5[1]? fun x7 => asSl x5[2]? fun x8 x9 => some (V.tup [V.int .i64 x6, V.int .i64 x7, V.sl x8 x9])))))
theorem e24 (k m q0 q1 : Nat) (y1 : Nat) (y2 : List V) (y3 : Nat) (y4 : List V) : runV C (k + 1) 24 [V.agg [V.sl y1 y2, V.sl y3 y4]] = T24 (orc C k) k m q0 q1 y1 y2 y3 y4 := by kernel_rfl
theorem E24 (y1 : Nat) (y2 : List V) (y3 : Nat) (y4 : List V) {r : V} (h : T24 (orcE C) 0 0 0 0 y1 y2 y3 y4 = some r) : runE C 24 [V.agg [V.sl y1 y2, V.sl y3 y4]] = some r := ofR (F := fun s => T24
 (orc C s.k) s.k s.m 0 0 y1 y2 y3 y4) (fun k => e24 k k 0 0 y1 y2 y3 y4) (by
  unfold T24
  exact
    cN cR (fun _ => cT (fun _ => cI (fun _ => cF (cC) (cM ((cM ((cM ((cM ((cN cR (fun _ => cT (fun _ => cI (fun _ => cI (fun _ => cL (fun _ _ => cC)))))))))))))))))) h

noncomputable def T43 (O : Orc) (k m q0 q1 : Nat) (y1 : Nat) (y2 : List V) : Option V := O.L 0 43 0 [true, true, false, true] [] k [(0, V.sl y1 y2), (2, V.ptr 0 0), (4, V.ptr 2 0), (5, V.int .i64 0)]
 [Ob.box 29 [V.int .i64 0, V.ref 1] false, Ob.row 52 0 [] false, Ob.box 29 [V.int .i64 0, V.ref 3] false, Ob.row 52 0 [] false]
theorem e43 (k m q0 q1 : Nat) (y1 : Nat) (y2 : List V) : runV C (k + 1) 43 [V.sl y1 y2] = T43 (orc C k) k m q0 q1 y1 y2 := by kernel_rfl
theorem E43 (y1 : Nat) (y2 : List V) {r : V} (h : T43 (orcE C) 0 0 0 0 y1 y2 = some r) : runE C 43 [V.sl y1 y2] = some r := ofR (F := fun s => T43 (orc C s.k) s.k s.m 0 0 y1 y2) (fun k => e43 k k 0 0
 y1 y2) (by
  unfold T43
  exact
    cD0 gK ) h

noncomputable def T22 (O : Orc) (k m q0 q1 : Nat) (y1 : Nat) (y2 : List V) (y3 : Nat) (y4 : List V) : Option V := need (O.R 0 44 [V.agg [V.sl y1 y2, V.sl y3 y4]]) fun x1 => asTup (some x1) fun x2 =>
 PI.asInt .i64 x2[0]? fun x3 => bif x3 != 0 then some (V.tup [V.int .i64 x3, V.int .i64 0, V.sl 0 []]) else need (O.R 0 46 [V.sl 2 [V.sl y1 y2, V.sl y3 y4]]) fun x4 => asTup (some x4) fun x5 => asOsl
 x5[0]? fun x6 x7 => need (O.R 0 45 [V.sl x6 x7]) fun x8 => asTup (some x8) fun x9 => PI.asInt .i64 x9[0]? fun x10 => PI.asInt .i64 x9[1]? fun x11 => asSl x9[2]? fun x12 x13 => some (V.tup [V.int .i64
 x10, V.int .i64 x11, V.sl x12 x13])
theorem e22 (k m q0 q1 : Nat) (y1 : Nat) (y2 : List V) (y3 : Nat) (y4 : List V) : runV C (k + 1) 22 [V.agg [V.sl y1 y2, V.sl y3 y4]] = T22 (orc C k) k m q0 q1 y1 y2 y3 y4 := by kernel_rfl
theorem E22 (y1 : Nat) (y2 : List V) (y3 : Nat) (y4 : List V) {r : V} (h : T22 (orcE C) 0 0 0 0 y1 y2 y3 y4 = some r) : runE C 22 [V.agg [V.sl y1 y2, V.sl y3 y4]] = some r := ofR (F := fun s => T22
 (orc C s.k) s.k s.m 0 0 y1 y2 y3 y4) (fun k => e22 k k 0 0 y1 y2 y3 y4) (by
  unfold T22
  exact
    cN cR (fun _ => cT (fun _ => cI (fun _ => cF (cC) (cN cR (fun _ => cT (fun _ => cO (fun _ _ => cN cR (fun _ => cT (fun _ => cI (fun _ => cI (fun _ => cL (fun _ _ => cC))))))))))))) h

noncomputable def T20l1 (O : Orc) (k m q0 q1 : Nat) (y1 : Nat) (y2 : List V) (y3 : Int) (y4 : Int) (y5 : Int) (y6 : Int) (y7 : Nat) (y8 : List V) (y9 : Int) (y10 : Nat) (y11 : List V) : Option V := bif
 decide (y4 < y3) then must (inB y4 y1) (must (decide (y4.toNat * 1 < y2.length)) (asSl y2[y4.toNat * 1]? fun x1 x2 => need (O.W 0 37 [] [V.ptr 0 0, V.sl x1 x2] [Ob.box 29 [V.int .i64 y9, V.ref 1]
 false, Ob.row 52 y10 y11 false]) fun x3 => asTup (some x3) fun x4 => PI.asInt .i64 x4[0]? fun x5 => PI.asInt .i64 x4[1]? fun x6 => asOsl x4[2]? fun x7 x8 => bif x5 != 0 then some (V.tup [V.int .i64
 x5, V.int .i64 0, V.osl 0 []]) else O.L 0 20 0 [true, true, true, true, false, true] [] m [(2, V.ptr 0 0), (4, V.ptr 2 0), (18, V.sl y1 y2), (19, V.int .i64 y3), (20, V.int .i64 (IntKind.i64.wrap (y4
 + 1)))] [Ob.box 31 [V.int .i64 y5, V.int .i64 y6, V.ref 1] false, Ob.row 52 y7 y8 false, Ob.box 29 [V.int .i64 x6, V.ref 3] false, Ob.row 52 x7 x8 false])) else must (false || y11.all flatV) (some
 (V.tup [V.int .i64 0, V.int .i64 y9, V.osl y10 y11]))
theorem e20l1 (k m q0 q1 : Nat) (y1 : Nat) (y2 : List V) (y3 : Int) (y4 : Int) (y5 : Int) (y6 : Int) (y7 : Nat) (y8 : List V) (y9 : Int) (y10 : Nat) (y11 : List V) : runL C k 20 0 [true, true, true,
 true, false, true] [] (m + 1) [(2, V.ptr 0 0), (4, V.ptr 2 0), (18, V.sl y1 y2), (19, V.int .i64 y3), (20, V.int .i64 y4)] [Ob.box 31 [V.int .i64 y5, V.int .i64 y6, V.ref 1] false, Ob.row 52 y7 y8
 false, Ob.box 29 [V.int .i64 y9, V.ref 3] false, Ob.row 52 y10 y11 false] = T20l1 (orc C k) k m q0 q1 y1 y2 y3 y4 y5 y6 y7 y8 y9 y10 y11 := by kernel_rfl
theorem E20l1 (y1 : Nat) (y2 : List V) (y3 : Int) (y4 : Int) (y5 : Int) (y6 : Int) (y7 : Nat) (y8 : List V) (y9 : Int) (y10 : Nat) (y11 : List V) {r : V} (h : T20l1 (orcE C) 0 0 0 0 y1 y2 y3 y4 y5 y6
 y7 y8 y9 y10 y11 = some r) : loopE C 20 0 [true, true, true, true, false, true] [] [(2, V.ptr 0 0), (4, V.ptr 2 0), (18, V.sl y1 y2), (19, V.int .i64 y3), (20, V.int .i64 y4)] [Ob.box 31 [V.int .i64
 y5, V.int .i64 y6, V.ref 1] false, Ob.row 52 y7 y8 false, Ob.box 29 [V.int .i64 y9, V.ref 3] false, Ob.row 52 y10 y11 false] = some r := ofL (j := 0) (F := fun s => T20l1 (orc C s.k) s.k s.m 0 0 y1 y2
 y3 y4 y5 y6 y7 y8 y9 y10 y11) (fs0 fun k m => e20l1 k m 0 0 y1 y2 y3 y4 y5 y6 y7 y8 y9 y10 y11) (by
  unfold T20l1
  exact
    cF (cM ((cM ((cL (fun _ _ => cN cQ (fun _ => cT (fun _ => cI (fun _ => cI (fun _ => cO (fun _ _ => cF (cC) (cD0 gM )))))))))))) (cM ((cC)))) h

noncomputable def T34l1 (O : Orc) (k m q0 q1 : Nat) (y1 : Nat) (y2 : List V) (y3 : Int) (y4 : Nat) (y5 : List V) : Option V := bif decide (y3 < (↑y1 : Int)) then must (inB y3 y1) (PI.asInt .i64
 y2[y3.toNat * 3]? fun x1 => PI.asInt .i64 y2[y3.toNat * 3 + 1]? fun x2 => PI.asInt .i64 y2[y3.toNat * 3 + 1 + 1]? fun x3 => need (O.R 0 58 [V.agg [V.int .i64 x1, V.int .i64 x2, V.int .i64 x3]]) fun x4
 => asTup (some x4) fun x5 => PI.asInt .i64 x5[0]? fun x6 => PI.asInt .i64 x5[1]? fun x7 => PI.asInt .i64 x5[2]? fun x8 => must (inB y3 y4) (must ([V.int .i64 x6, V.int .i64 x7, V.int .i64
 x8].length.beq 3 && (y3.toNat * 3 + [V.int .i64 x6, V.int .i64 x7, V.int .i64 x8].length).ble y5.length) (O.L 0 34 0 [true, true, false, true] [] m [(0, V.sl y1 y2), (3, V.ref 0), (4, V.int .i64
 (IntKind.i64.wrap (y3 + 1)))] [Ob.row 52 y4 (splice y5 (y3.toNat * 3) [V.int .i64 x6, V.int .i64 x7, V.int .i64 x8]) false]))) else must (false || y5.all flatV) (some (V.tup [V.osl y4 y5]))
theorem e34l1 (k m q0 q1 : Nat) (y1 : Nat) (y2 : List V) (y3 : Int) (y4 : Nat) (y5 : List V) : runL C k 34 0 [true, true, false, true] [] (m + 1) [(0, V.sl y1 y2), (3, V.ref 0), (4, V.int .i64 y3)]
 [Ob.row 52 y4 y5 false] = T34l1 (orc C k) k m q0 q1 y1 y2 y3 y4 y5 := by kernel_rfl
theorem E34l1 (y1 : Nat) (y2 : List V) (y3 : Int) (y4 : Nat) (y5 : List V) {r : V} (h : T34l1 (orcE C) 0 0 0 0 y1 y2 y3 y4 y5 = some r) : loopE C 34 0 [true, true, false, true] [] [(0, V.sl y1 y2), (3,
 V.ref 0), (4, V.int .i64 y3)] [Ob.row 52 y4 y5 false] = some r := ofL (j := 0) (F := fun s => T34l1 (orc C s.k) s.k s.m 0 0 y1 y2 y3 y4 y5) (fs0 fun k m => e34l1 k m 0 0 y1 y2 y3 y4 y5) (by
  unfold T34l1
  exact
    cF (cM ((cI (fun _ => cI (fun _ => cI (fun _ => cN cR (fun _ => cT (fun _ => cI (fun _ => cI (fun _ => cI (fun _ => cM ((cM ((cD0 gM ))))))))))))))) (cM ((cC)))) h

noncomputable def T51 (O : Orc) (k m q0 q1 : Nat) (y1 : Int) (y2 : Int) (y3 : Int) : Option V := bif decide (y1 ≥ y2) then some (V.tup [V.bool (decide (y1 ≤ y3))]) else some (V.tup [V.bool false])
theorem e51 (k m q0 q1 : Nat) (y1 : Int) (y2 : Int) (y3 : Int) : runV C (k + 1) 51 [V.int .i64 y1, V.int .i64 y2, V.int .i64 y3] = T51 (orc C k) k m q0 q1 y1 y2 y3 := by kernel_rfl
theorem E51 (y1 : Int) (y2 : Int) (y3 : Int) {r : V} (h : T51 (orcE C) 0 0 0 0 y1 y2 y3 = some r) : runE C 51 [V.int .i64 y1, V.int .i64 y2, V.int .i64 y3] = some r := ofR (F := fun s => T51 (orc C
 s.k) s.k s.m 0 0 y1 y2 y3) (fun k => e51 k k 0 0 y1 y2 y3) (by
  unfold T51
  exact
    cF (cC) (cC)) h

noncomputable def T30l1 (O : Orc) (k m q0 q1 : Nat) (y1 : Int) (y2 : Int) (y3 : Nat) (y4 : List V) : Option V := bif decide (y1 < (↑y3 : Int)) then must (inB y1 y3) (PI.asInt .i64 y4[y1.toNat * 3]? fun
 x1 => PI.asInt .i64 y4[y1.toNat * 3 + 1]? fun x2 => PI.asInt .i64 y4[y1.toNat * 3 + 1 + 1]? fun x3 => need (O.R 0 51 [V.int .i64 x1, V.int .i64 1, V.int .i64 y2]) fun x4 => asTup (some x4) fun x5 =>
 PI.asBool x5[0]? fun x6 => bif !x6 then some (V.tup [V.int .i64 3]) else need (O.R 0 51 [V.int .i64 x2, V.int .i64 0, V.int .i64 8]) fun x7 => asTup (some x7) fun x8 => PI.asBool x8[0]? fun x9 => bif
 !x9 then some (V.tup [V.int .i64 3]) else need (O.R 0 51 [V.int .i64 x3, V.int .i64 0, V.int .i64 2199023255552]) fun x10 => asTup (some x10) fun x11 => PI.asBool x11[0]? fun x12 => bif !x12 then some
 (V.tup [V.int .i64 3]) else bif decide (y1 > 0) then must (inB (IntKind.i64.wrap (y1 - 1)) y3) (PI.asInt .i64 y4[(IntKind.i64.wrap (y1 - 1)).toNat * 3 + 0]? fun x13 => bif decide (x1 ≤ x13) then some
 (V.tup [V.int .i64 1]) else O.L 0 30 0 [true, true, true, false, true] [] m [(1, V.ptr 0 0), (3, V.int .i64 (IntKind.i64.wrap (y1 + 1)))] [Ob.box 29 [V.int .i64 y2, V.sl y3 y4] false]) else O.L 0 30 0
 [true, true, true, false, true] [] m [(1, V.ptr 0 0), (3, V.int .i64 (IntKind.i64.wrap (y1 + 1)))] [Ob.box 29 [V.int .i64 y2, V.sl y3 y4] false]) else some (V.tup [V.int .i64 0])
theorem e30l1 (k m q0 q1 : Nat) (y1 : Int) (y2 : Int) (y3 : Nat) (y4 : List V) : runL C k 30 0 [true, true, true, false, true] [] (m + 1) [(1, V.ptr 0 0), (3, V.int .i64 y1)] [Ob.box 29 [V.int .i64 y2,
 V.sl y3 y4] false] = T30l1 (orc C k) k m q0 q1 y1 y2 y3 y4 := by kernel_rfl
theorem E30l1 (y1 : Int) (y2 : Int) (y3 : Nat) (y4 : List V) {r : V} (h : T30l1 (orcE C) 0 0 0 0 y1 y2 y3 y4 = some r) : loopE C 30 0 [true, true, true, false, true] [] [(1, V.ptr 0 0), (3, V.int .i64
 y1)] [Ob.box 29 [V.int .i64 y2, V.sl y3 y4] false] = some r := ofL (j := 0) (F := fun s => T30l1 (orc C s.k) s.k s.m 0 0 y1 y2 y3 y4) (fs0 fun k m => e30l1 k m 0 0 y1 y2 y3 y4) (by
  unfold T30l1
  exact
    cF (cM ((cI (fun _ => cI (fun _ => cI (fun _ => cN cR (fun _ => cT (fun _ => cB (fun _ => cF (cC) (cN cR (fun _ => cT (fun _ => cB (fun _ => cF (cC) (cN cR (fun _ => cT (fun _ => cB (fun _ => cF (cC)
    (cF (cM ((cI (fun _ => cF (cC) (cD0 gM ))))) (cD0 gM ))))))))))))))))))) (cC)) h

noncomputable def T52 (O : Orc) (k m q0 q1 : Nat) (y1 : Nat) (y2 : List V) : Option V := O.L 0 52 0 [true, true, false, true] [] k [(0, V.sl y1 y2), (3, V.int .i64 0), (4, V.int .i64 0)] []
theorem e52 (k m q0 q1 : Nat) (y1 : Nat) (y2 : List V) : runV C (k + 1) 52 [V.sl y1 y2] = T52 (orc C k) k m q0 q1 y1 y2 := by kernel_rfl
theorem E52 (y1 : Nat) (y2 : List V) {r : V} (h : T52 (orcE C) 0 0 0 0 y1 y2 = some r) : runE C 52 [V.sl y1 y2] = some r := ofR (F := fun s => T52 (orc C s.k) s.k s.m 0 0 y1 y2) (fun k => e52 k k 0 0
 y1 y2) (by
  unfold T52
  exact
    cD0 gK ) h

noncomputable def T53 (O : Orc) (k m q0 q1 : Nat) (y1 : Int) (y2 : Int) (y3 : Int) : Option V := need (O.R 0 51 [V.int .i64 y1, V.int .i64 1, V.int .i64 3]) fun x1 => asTup (some x1) fun x2 =>
 PI.asBool x2[0]? fun x3 => bif !x3 then some (V.tup [V.int .i64 1, V.sl 0 []]) else need (O.R 0 51 [V.int .i64 y2, V.int .i64 1, V.int .i64 1000000]) fun x4 => asTup (some x4) fun x5 => PI.asBool
 x5[0]? fun x6 => bif !x6 then some (V.tup [V.int .i64 3, V.sl 0 []]) else need (O.R 0 51 [V.int .i64 y3, V.int .i64 0, V.int .i64 1099511627776]) fun x7 => asTup (some x7) fun x8 => PI.asBool x8[0]?
 fun x9 => bif !x9 then some (V.tup [V.int .i64 3, V.sl 0 []]) else bif y1 != 2 then bif y3 != 0 then some (V.tup [V.int .i64 1, V.sl 0 []]) else need (O.R 0 74 [V.int .i64 y1, V.int .i64 y2, V.int
 .i64 y3]) fun x10 => asTup (some x10) fun x11 => asSl x11[0]? fun x12 x13 => some (V.tup [V.int .i64 0, V.sl x12 x13]) else need (O.R 0 74 [V.int .i64 y1, V.int .i64 y2, V.int .i64 y3]) fun x14 =>
 asTup (some x14) fun x15 => asSl x15[0]? fun x16 x17 => some (V.tup [V.int .i64 0, V.sl x16 x17])
theorem e53 (k m q0 q1 : Nat) (y1 : Int) (y2 : Int) (y3 : Int) : runV C (k + 1) 53 [V.int .i64 y1, V.int .i64 y2, V.int .i64 y3] = T53 (orc C k) k m q0 q1 y1 y2 y3 := by kernel_rfl
theorem E53 (y1 : Int) (y2 : Int) (y3 : Int) {r : V} (h : T53 (orcE C) 0 0 0 0 y1 y2 y3 = some r) : runE C 53 [V.int .i64 y1, V.int .i64 y2, V.int .i64 y3] = some r := ofR (F := fun s => T53 (orc C
 s.k) s.k s.m 0 0 y1 y2 y3) (fun k => e53 k k 0 0 y1 y2 y3) (by
  unfold T53
  exact
    cN cR (fun _ => cT (fun _ => cB (fun _ => cF (cC) (cN cR (fun _ => cT (fun _ => cB (fun _ => cF (cC) (cN cR (fun _ => cT (fun _ => cB (fun _ => cF (cC) (cF (cF (cC) (cN cR (fun _ => cT (fun _ => cL
    (fun _ _ => cC))))) (cN cR (fun _ => cT (fun _ => cL (fun _ _ => cC))))))))))))))))) h

noncomputable def T54 (O : Orc) (k m q0 q1 : Nat) (y1 : Nat) (y2 : List V) (y3 : Nat) (y4 : List V) : Option V := need (O.R 0 75 [V.sl y1 y2, V.sl y3 y4]) fun x1 => asTup (some x1) fun x2 => PI.asInt
 .i64 x2[0]? fun x3 => some (V.tup [V.bool (x3 == 0)])
theorem e54 (k m q0 q1 : Nat) (y1 : Nat) (y2 : List V) (y3 : Nat) (y4 : List V) : runV C (k + 1) 54 [V.sl y1 y2, V.sl y3 y4] = T54 (orc C k) k m q0 q1 y1 y2 y3 y4 := by kernel_rfl
theorem E54 (y1 : Nat) (y2 : List V) (y3 : Nat) (y4 : List V) {r : V} (h : T54 (orcE C) 0 0 0 0 y1 y2 y3 y4 = some r) : runE C 54 [V.sl y1 y2, V.sl y3 y4] = some r := ofR (F := fun s => T54 (orc C s.k)
 s.k s.m 0 0 y1 y2 y3 y4) (fun k => e54 k k 0 0 y1 y2 y3 y4) (by
  unfold T54
  exact
    cN cR (fun _ => cT (fun _ => cI (fun _ => cC)))) h

noncomputable def T55 (O : Orc) (k m q0 q1 : Nat) (y1 : Int) (y2 : Int) (y3 : Nat) (y4 : List V) : Option V := bif y1 != IntKind.i64.wrap (y2 + 1) then must (false || y4.all flatV) (some (V.tup [V.int
 .i64 1, V.int .i64 y2, V.osl y3 y4])) else bif decide (y1 > 1000000) then must (false || y4.all flatV) (some (V.tup [V.int .i64 3, V.int .i64 y2, V.osl y3 y4])) else bif decide ((↑y3 : Int) ≥ 12) then
 must (false || y4.all flatV) (some (V.tup [V.int .i64 8, V.int .i64 y2, V.osl y3 y4])) else must (true && (y3 + 1).ble 140737488355328 && ((y3 + 1) * 24).ble 140737488355328) (must (false || (y4 ++
 [V.int .i64 y1, V.int .i64 0, V.int .i64 0]).all flatV) (some (V.tup [V.int .i64 0, V.int .i64 y1, V.osl (y3 + 1) (y4 ++ [V.int .i64 y1, V.int .i64 0, V.int .i64 0])])))
theorem e55 (k m q0 q1 : Nat) (y1 : Int) (y2 : Int) (y3 : Nat) (y4 : List V) : runW C (k + 1) 55 [] [V.ptr 0 0, V.int .i64 y1] [Ob.box 29 [V.int .i64 y2, V.ref 1] false, Ob.row 52 y3 y4 false] = T55
 (orc C k) k m q0 q1 y1 y2 y3 y4 := by kernel_rfl
theorem E55 (y1 : Int) (y2 : Int) (y3 : Nat) (y4 : List V) {r : V} (h : T55 (orcE C) 0 0 0 0 y1 y2 y3 y4 = some r) : runWE C 55 [] [V.ptr 0 0, V.int .i64 y1] [Ob.box 29 [V.int .i64 y2, V.ref 1] false,
 Ob.row 52 y3 y4 false] = some r := ofW (F := fun s => T55 (orc C s.k) s.k s.m 0 0 y1 y2 y3 y4) (fun k => e55 k k 0 0 y1 y2 y3 y4) (by
  unfold T55
  exact
    cF (cM ((cC))) (cF (cM ((cC))) (cF (cM ((cC))) (cM ((cM ((cC)))))))) h

noncomputable def T56 (O : Orc) (k m q0 q1 : Nat) (y1 : Int) (y2 : Int) (y3 : Int) (y4 : Nat) (y5 : List V) : Option V := need (O.R 0 51 [V.int .i64 y2, V.int .i64 0, V.int .i64 1099511627776]) fun x1
 => asTup (some x1) fun x2 => PI.asBool x2[0]? fun x3 => bif !x3 then must (false || y5.all flatV) (some (V.tup [V.int .i64 3, V.int .i64 y3, V.osl y4 y5])) else need (O.R 0 76 [V.pin [V.int .i64 y3,
 V.sl y4 y5] 0, V.int .i64 y1]) fun x4 => asTup (some x4) fun x5 => PI.asInt .i64 x5[0]? fun x6 => bif decide (x6 < 0) then must (false || y5.all flatV) (some (V.tup [V.int .i64 4, V.int .i64 y3, V.osl
 y4 y5])) else must (inB x6 y4) (PI.asInt .i64 y5[x6.toNat * 3]? fun x7 => PI.asInt .i64 y5[x6.toNat * 3 + 1]? fun x8 => PI.asInt .i64 y5[x6.toNat * 3 + 1 + 1]? fun x9 => need (O.R 0 77 [V.int .i64 8,
 V.int .i64 (IntKind.i64.wrap (x8 + 1))]) fun x10 => asTup (some x10) fun x11 => PI.asInt .i64 x11[0]? fun x12 => must (decide (0 ≤ IntKind.u64.wrap x12)) (must (inB x6 y4) (must ([V.int .i64 x7, V.int
 .i64 x12, V.int .i64 (IntKind.i64.wrap (y2 + IntKind.i64.wrap (1 * 2 ^ min (IntKind.u64.wrap x12).toNat 64)))].length.beq 3 && (x6.toNat * 3 + [V.int .i64 x7, V.int .i64 x12, V.int .i64
 (IntKind.i64.wrap (y2 + IntKind.i64.wrap (1 * 2 ^ min (IntKind.u64.wrap x12).toNat 64)))].length).ble y5.length) (must (false || (splice y5 (x6.toNat * 3) [V.int .i64 x7, V.int .i64 x12, V.int .i64
 (IntKind.i64.wrap (y2 + IntKind.i64.wrap (1 * 2 ^ min (IntKind.u64.wrap x12).toNat 64)))]).all flatV) (some (V.tup [V.int .i64 0, V.int .i64 y3, V.osl y4 (splice y5 (x6.toNat * 3) [V.int .i64 x7,
 V.int .i64 x12, V.int .i64 (IntKind.i64.wrap (y2 + IntKind.i64.wrap (1 * 2 ^ min (IntKind.u64.wrap x12).toNat 64)))])]))))))
theorem e56 (k m q0 q1 : Nat) (y1 : Int) (y2 : Int) (y3 : Int) (y4 : Nat) (y5 : List V) : runW C (k + 1) 56 [] [V.ptr 0 0, V.int .i64 y1, V.int .i64 y2] [Ob.box 29 [V.int .i64 y3, V.ref 1] false,
 Ob.row 52 y4 y5 false] = T56 (orc C k) k m q0 q1 y1 y2 y3 y4 y5 := by kernel_rfl
theorem E56 (y1 : Int) (y2 : Int) (y3 : Int) (y4 : Nat) (y5 : List V) {r : V} (h : T56 (orcE C) 0 0 0 0 y1 y2 y3 y4 y5 = some r) : runWE C 56 [] [V.ptr 0 0, V.int .i64 y1, V.int .i64 y2] [Ob.box 29
 [V.int .i64 y3, V.ref 1] false, Ob.row 52 y4 y5 false] = some r := ofW (F := fun s => T56 (orc C s.k) s.k s.m 0 0 y1 y2 y3 y4 y5) (fun k => e56 k k 0 0 y1 y2 y3 y4 y5) (by
  unfold T56
  exact
    cN cR (fun _ => cT (fun _ => cB (fun _ => cF (cM ((cC))) (cN cR (fun _ => cT (fun _ => cI (fun _ => cF (cM ((cC))) (cM ((cI (fun _ => cI (fun _ => cI (fun _ => cN cR (fun _ => cT (fun _ => cI (fun _ =>
    cM ((cM ((cM ((cM ((cC))))))))))))))))))))))))) h

noncomputable def T57 (O : Orc) (k m q0 q1 : Nat) (y1 : Int) (y2 : Int) (y3 : Nat) (y4 : List V) : Option V := need (O.R 0 76 [V.pin [V.int .i64 y2, V.sl y3 y4] 0, V.int .i64 y1]) fun x1 => asTup (some
 x1) fun x2 => PI.asInt .i64 x2[0]? fun x3 => bif decide (x3 < 0) then must (false || y4.all flatV) (some (V.tup [V.int .i64 4, V.int .i64 y2, V.osl y3 y4])) else must (decide (0 ≤ x3) && decide (x3 ≤
 (↑y3 : Int))) (must (decide (0 ≤ IntKind.i64.wrap (x3 + 1)) && decide (IntKind.i64.wrap (x3 + 1) ≤ (↑y3 : Int))) (must (decide ((List.take ((x3.toNat - 0) * 3) (List.drop 0 y4)).length = (x3.toNat -
 0) * 3)) (must (true && (0 + (x3.toNat - 0)).ble 140737488355328 && ((0 + (x3.toNat - 0)) * 24).ble 140737488355328) (must (decide ((List.take ((y3 - (IntKind.i64.wrap (x3 + 1)).toNat) * 3) (List.drop
 ((IntKind.i64.wrap (x3 + 1)).toNat * 3) y4)).length = (y3 - (IntKind.i64.wrap (x3 + 1)).toNat) * 3)) (must (true && (0 + (x3.toNat - 0) + (y3 - (IntKind.i64.wrap (x3 + 1)).toNat)).ble 140737488355328
 && ((0 + (x3.toNat - 0) + (y3 - (IntKind.i64.wrap (x3 + 1)).toNat)) * 24).ble 140737488355328) (must (false || (List.take ((x3.toNat - 0) * 3) (List.drop 0 y4) ++ List.take ((y3 - (IntKind.i64.wrap
 (x3 + 1)).toNat) * 3) (List.drop ((IntKind.i64.wrap (x3 + 1)).toNat * 3) y4)).all flatV) (some (V.tup [V.int .i64 0, V.int .i64 y2, V.osl (0 + (x3.toNat - 0) + (y3 - (IntKind.i64.wrap (x3 +
 1)).toNat)) (List.take ((x3.toNat - 0) * 3) (List.drop 0 y4) ++ List.take ((y3 - (IntKind.i64.wrap (x3 + 1)).toNat) * 3) (List.drop ((IntKind.i64.wrap (x3 + 1)).toNat * 3) y4))]))))))))
theorem e57 (k m q0 q1 : Nat) (y1 : Int) (y2 : Int) (y3 : Nat) (y4 : List V) : runW C (k + 1) 57 [] [V.ptr 0 0, V.int .i64 y1] [Ob.box 29 [V.int .i64 y2, V.ref 1] false, Ob.row 52 y3 y4 false] = T57
 (orc C k) k m q0 q1 y1 y2 y3 y4 := by kernel_rfl
theorem E57 (y1 : Int) (y2 : Int) (y3 : Nat) (y4 : List V) {r : V} (h : T57 (orcE C) 0 0 0 0 y1 y2 y3 y4 = some r) : runWE C 57 [] [V.ptr 0 0, V.int .i64 y1] [Ob.box 29 [V.int .i64 y2, V.ref 1] false,
 Ob.row 52 y3 y4 false] = some r := ofW (F := fun s => T57 (orc C s.k) s.k s.m 0 0 y1 y2 y3 y4) (fun k => e57 k k 0 0 y1 y2 y3 y4) (by
  unfold T57
  exact
    cN cR (fun _ => cT (fun _ => cI (fun _ => cF (cM ((cC))) (cM ((cM ((cM ((cM ((cM ((cM ((cM ((cC))))))))))))))))))) h

noncomputable def T23 (O : Orc) (k m q0 q1 : Nat) (y1 : Int) (y2 : Nat) (y3 : List V) : Option V := need (O.R 0 47 [V.int .i64 y1, V.int .i64 0, V.int .i64 1000000]) fun x1 => asTup (some x1) fun x2 =>
 PI.asBool x2[0]? fun x3 => bif !x3 then some (V.tup [V.int .i64 3]) else bif decide ((↑y2 : Int) > 12) then some (V.tup [V.int .i64 2]) else O.L 0 23 1 [true, true, false, true] [] k [(1, V.ptr 0 0),
 (16, V.sl y2 y3), (17, V.int .i64 (↑y2 : Int)), (18, V.int .i64 0)] [Ob.box 29 [V.int .i64 y1, V.sl y2 y3] false]
theorem e23 (k m q0 q1 : Nat) (y1 : Int) (y2 : Nat) (y3 : List V) : runV C (k + 1) 23 [V.agg [V.int .i64 y1, V.sl y2 y3]] = T23 (orc C k) k m q0 q1 y1 y2 y3 := by kernel_rfl
theorem E23 (y1 : Int) (y2 : Nat) (y3 : List V) {r : V} (h : T23 (orcE C) 0 0 0 0 y1 y2 y3 = some r) : runE C 23 [V.agg [V.int .i64 y1, V.sl y2 y3]] = some r := ofR (F := fun s => T23 (orc C s.k) s.k
 s.m 0 0 y1 y2 y3) (fun k => e23 k k 0 0 y1 y2 y3) (by
  unfold T23
  exact
    cN cR (fun _ => cT (fun _ => cB (fun _ => cF (cC) (cF (cC) (cD0 gK )))))) h

noncomputable def T59 (O : Orc) (k m q0 q1 : Nat) (y1 : Int) (y2 : Nat) (y3 : List V) : Option V := need (O.R 0 78 [V.sl y2 y3]) fun x1 => asTup (some x1) fun x2 => asOsl x2[0]? fun x3 x4 => must
 (false || x4.all flatV) (some (V.tup [V.int .i64 y1, V.osl x3 x4]))
theorem e59 (k m q0 q1 : Nat) (y1 : Int) (y2 : Nat) (y3 : List V) : runV C (k + 1) 59 [V.agg [V.int .i64 y1, V.sl y2 y3]] = T59 (orc C k) k m q0 q1 y1 y2 y3 := by kernel_rfl
theorem E59 (y1 : Int) (y2 : Nat) (y3 : List V) {r : V} (h : T59 (orcE C) 0 0 0 0 y1 y2 y3 = some r) : runE C 59 [V.agg [V.int .i64 y1, V.sl y2 y3]] = some r := ofR (F := fun s => T59 (orc C s.k) s.k
 s.m 0 0 y1 y2 y3) (fun k => e59 k k 0 0 y1 y2 y3) (by
  unfold T59
  exact
    cN cR (fun _ => cT (fun _ => cO (fun _ _ => cM ((cC)))))) h

noncomputable def T36 (O : Orc) (k m q0 q1 : Nat) (y1 : Nat) (y2 : List V) (y3 : Int) (y4 : Nat) (y5 : List V) : Option V := need (O.W 0 37 [] [V.ptr 0 0, V.sl y1 y2] [Ob.box 29 [V.int .i64 y3, V.ref
 1] false, Ob.row 52 y4 y5 false]) fun x1 => asTup (some x1) fun x2 => PI.asInt .i64 x2[0]? fun x3 => PI.asInt .i64 x2[1]? fun x4 => asOsl x2[2]? fun x5 x6 => must (false || x6.all flatV) (some (V.tup
 [V.int .i64 x3, V.int .i64 x4, V.osl x5 x6]))
theorem e36 (k m q0 q1 : Nat) (y1 : Nat) (y2 : List V) (y3 : Int) (y4 : Nat) (y5 : List V) : runW C (k + 1) 36 [] [V.ptr 0 0, V.pin [V.sl y1 y2] 0] [Ob.box 29 [V.int .i64 y3, V.ref 1] false, Ob.row 52
 y4 y5 false] = T36 (orc C k) k m q0 q1 y1 y2 y3 y4 y5 := by kernel_rfl
theorem E36 (y1 : Nat) (y2 : List V) (y3 : Int) (y4 : Nat) (y5 : List V) {r : V} (h : T36 (orcE C) 0 0 0 0 y1 y2 y3 y4 y5 = some r) : runWE C 36 [] [V.ptr 0 0, V.pin [V.sl y1 y2] 0] [Ob.box 29 [V.int
 .i64 y3, V.ref 1] false, Ob.row 52 y4 y5 false] = some r := ofW (F := fun s => T36 (orc C s.k) s.k s.m 0 0 y1 y2 y3 y4 y5) (fun k => e36 k k 0 0 y1 y2 y3 y4 y5) (by
  unfold T36
  exact
    cN cQ (fun _ => cT (fun _ => cI (fun _ => cI (fun _ => cO (fun _ _ => cM ((cC)))))))) h

noncomputable def T38l1 (O : Orc) (k m q0 q1 : Nat) (y1 : Nat) (y2 : List V) (y3 : Nat) (y4 : List V) (y5 : Int) : Option V := bif decide (y5 < (↑y1 : Int)) then must (inB y5 y1) (PI.asInt .i64
 y2[y5.toNat * 3]? fun x1 => PI.asInt .i64 y2[y5.toNat * 3 + 1]? fun x2 => PI.asInt .i64 y2[y5.toNat * 3 + 1 + 1]? fun x3 => must (inB y5 y3) (PI.asInt .i64 y4[y5.toNat * 3]? fun x4 => PI.asInt .i64
 y4[y5.toNat * 3 + 1]? fun x5 => PI.asInt .i64 y4[y5.toNat * 3 + 1 + 1]? fun x6 => need (O.R 0 64 [V.agg [V.int .i64 x1, V.int .i64 x2, V.int .i64 x3], V.agg [V.int .i64 x4, V.int .i64 x5, V.int .i64
 x6]]) fun x7 => asTup (some x7) fun x8 => PI.asBool x8[0]? fun x9 => bif !x9 then some (V.tup [V.bool false]) else O.L 0 38 0 [true, true, false, true] [] m [(0, V.sl y1 y2), (1, V.sl y3 y4), (5,
 V.int .i64 (IntKind.i64.wrap (y5 + 1)))] [])) else some (V.tup [V.bool true])
theorem e38l1 (k m q0 q1 : Nat) (y1 : Nat) (y2 : List V) (y3 : Nat) (y4 : List V) (y5 : Int) : runL C k 38 0 [true, true, false, true] [] (m + 1) [(0, V.sl y1 y2), (1, V.sl y3 y4), (5, V.int .i64 y5)]
 [] = T38l1 (orc C k) k m q0 q1 y1 y2 y3 y4 y5 := by kernel_rfl
theorem E38l1 (y1 : Nat) (y2 : List V) (y3 : Nat) (y4 : List V) (y5 : Int) {r : V} (h : T38l1 (orcE C) 0 0 0 0 y1 y2 y3 y4 y5 = some r) : loopE C 38 0 [true, true, false, true] [] [(0, V.sl y1 y2), (1,
 V.sl y3 y4), (5, V.int .i64 y5)] [] = some r := ofL (j := 0) (F := fun s => T38l1 (orc C s.k) s.k s.m 0 0 y1 y2 y3 y4 y5) (fs0 fun k m => e38l1 k m 0 0 y1 y2 y3 y4 y5) (by
  unfold T38l1
  exact
    cF (cM ((cI (fun _ => cI (fun _ => cI (fun _ => cM ((cI (fun _ => cI (fun _ => cI (fun _ => cN cR (fun _ => cT (fun _ => cB (fun _ => cF (cC) (cD0 gM ))))))))))))))) (cC)) h

noncomputable def T39l1 (O : Orc) (k m q0 q1 : Nat) (y1 : Int) (y2 : Int) (y3 : Nat) (y4 : List V) : Option V := bif decide (y2 < (↑y3 : Int)) then must (inB y2 y3) (must ([V.int .i64 y1].length.beq 1
 && (y2.toNat * 3 + 0 + [V.int .i64 y1].length).ble y4.length) (must (inB y2 y3) (must ([V.int .i64 (IntKind.i64.wrap (y1 + 1))].length.beq 1 && (y2.toNat * 3 + 1 + [V.int .i64 (IntKind.i64.wrap (y1 +
 1))].length).ble (splice y4 (y2.toNat * 3 + 0) [V.int .i64 y1]).length) (must (inB y2 y3) (must ([V.int .i64 (IntKind.i64.wrap (IntKind.i64.wrap (y1 + 1) + 1))].length.beq 1 && (y2.toNat * 3 + 2 +
 [V.int .i64 (IntKind.i64.wrap (IntKind.i64.wrap (y1 + 1) + 1))].length).ble (splice (splice y4 (y2.toNat * 3 + 0) [V.int .i64 y1]) (y2.toNat * 3 + 1) [V.int .i64 (IntKind.i64.wrap (y1 + 1))]).length)
 (O.X 0 39 [0] [Ob.row 52 0 [] false] 0 [true, false, true] [] m [(0, V.ref 0), (1, V.int .i64 (IntKind.i64.wrap (IntKind.i64.wrap (IntKind.i64.wrap (y1 + 1) + 1) + 1))), (5, V.int .i64
 (IntKind.i64.wrap (y2 + 1)))] [Ob.row 52 y3 (splice (splice (splice y4 (y2.toNat * 3 + 0) [V.int .i64 y1]) (y2.toNat * 3 + 1) [V.int .i64 (IntKind.i64.wrap (y1 + 1))]) (y2.toNat * 3 + 2) [V.int .i64
 (IntKind.i64.wrap (IntKind.i64.wrap (y1 + 1) + 1))]) false])))))) else must (false || y4.all flatV) (some (V.tup [V.int .i64 y1, V.osl y3 y4]))
theorem e39l1 (k m q0 q1 : Nat) (y1 : Int) (y2 : Int) (y3 : Nat) (y4 : List V) : runLW C k 39 [0] [Ob.row 52 0 [] false] 0 [true, false, true] [] (m + 1) [(0, V.ref 0), (1, V.int .i64 y1), (5, V.int
 .i64 y2)] [Ob.row 52 y3 y4 false] = T39l1 (orc C k) k m q0 q1 y1 y2 y3 y4 := by kernel_rfl
theorem E39l1 (y1 : Int) (y2 : Int) (y3 : Nat) (y4 : List V) {r : V} (h : T39l1 (orcE C) 0 0 0 0 y1 y2 y3 y4 = some r) : loopWE C 39 [0] [Ob.row 52 0 [] false] 0 [true, false, true] [] [(0, V.ref 0),
 (1, V.int .i64 y1), (5, V.int .i64 y2)] [Ob.row 52 y3 y4 false] = some r := ofX (j := 0) (F := fun s => T39l1 (orc C s.k) s.k s.m 0 0 y1 y2 y3 y4) (fs0 fun k m => e39l1 k m 0 0 y1 y2 y3 y4) (by
  unfold T39l1
  exact
    cF (cM ((cM ((cM ((cM ((cM ((cM ((cX0 gM ))))))))))))) (cM ((cC)))) h

noncomputable def T65 (O : Orc) (k m q0 q1 : Nat) (y1 : Nat) (y2 : List V) (y3 : Int) : Option V := O.L 0 65 0 [true, false, true] [] k [(0, V.sl y1 y2), (1, V.int .i64 y3), (5, V.int .i64 0)] []
theorem e65 (k m q0 q1 : Nat) (y1 : Nat) (y2 : List V) (y3 : Int) : runV C (k + 1) 65 [V.sl y1 y2, V.int .i64 y3] = T65 (orc C k) k m q0 q1 y1 y2 y3 := by kernel_rfl
theorem E65 (y1 : Nat) (y2 : List V) (y3 : Int) {r : V} (h : T65 (orcE C) 0 0 0 0 y1 y2 y3 = some r) : runE C 65 [V.sl y1 y2, V.int .i64 y3] = some r := ofR (F := fun s => T65 (orc C s.k) s.k s.m 0 0
 y1 y2 y3) (fun k => e65 k k 0 0 y1 y2 y3) (by
  unfold T65
  exact
    cD0 gK ) h

noncomputable def T48 (O : Orc) (k m q0 q1 : Nat) (y1 : Nat) (y2 : List V) (y3 : Nat) (y4 : List V) : Option V := bif decide (IntKind.i64.wrap ((↑y1 : Int) + (↑y3 : Int)) > 2000) then some (V.tup
 [V.int .i64 2]) else some (V.tup [V.int .i64 0])
theorem e48 (k m q0 q1 : Nat) (y1 : Nat) (y2 : List V) (y3 : Nat) (y4 : List V) : runV C (k + 1) 48 [V.agg [V.sl y1 y2, V.sl y3 y4]] = T48 (orc C k) k m q0 q1 y1 y2 y3 y4 := by kernel_rfl
theorem E48 (y1 : Nat) (y2 : List V) (y3 : Nat) (y4 : List V) {r : V} (h : T48 (orcE C) 0 0 0 0 y1 y2 y3 y4 = some r) : runE C 48 [V.agg [V.sl y1 y2, V.sl y3 y4]] = some r := ofR (F := fun s => T48
 (orc C s.k) s.k s.m 0 0 y1 y2 y3 y4) (fun k => e48 k k 0 0 y1 y2 y3 y4) (by
  unfold T48
  exact
    cF (cC) (cC)) h

noncomputable def T49 (O : Orc) (k m q0 q1 : Nat) (y1 : Nat) (y2 : List V) : Option V := O.L 0 49 0 [true, true, true, false] [] k [(0, V.sl y1 y2), (2, V.ptr 0 0), (3, V.ptr 2 0), (4, V.int .i64 0)]
 [Ob.box 49 [V.int .i64 0, V.int .i64 0, V.ref 1] false, Ob.row 25 0 [] false, Ob.box 49 [V.int .i64 0, V.int .i64 0, V.ref 3] false, Ob.row 25 0 [] false]
theorem e49 (k m q0 q1 : Nat) (y1 : Nat) (y2 : List V) : runV C (k + 1) 49 [V.sl y1 y2] = T49 (orc C k) k m q0 q1 y1 y2 := by kernel_rfl
theorem E49 (y1 : Nat) (y2 : List V) {r : V} (h : T49 (orcE C) 0 0 0 0 y1 y2 = some r) : runE C 49 [V.sl y1 y2] = some r := ofR (F := fun s => T49 (orc C s.k) s.k s.m 0 0 y1 y2) (fun k => e49 k k 0 0
 y1 y2) (by
  unfold T49
  exact
    cD0 gK ) h

noncomputable def T43l1 (O : Orc) (k m q0 q1 : Nat) (y1 : Nat) (y2 : List V) (y3 : Int) (y4 : Int) (y5 : Nat) (y6 : List V) (y7 : Int) (y8 : Nat) (y9 : List V) : Option V := bif decide (y3 < (↑y1 :
 Int)) then must (inB y3 y1) (must (decide (y3.toNat * 1 < y2.length)) (asSl y2[y3.toNat * 1]? fun x1 x2 => need (O.W 0 32 [] [V.ptr 0 0, V.sl x1 x2] [Ob.box 29 [V.int .i64 y7, V.ref 1] false, Ob.row
 52 y8 y9 false]) fun x3 => asTup (some x3) fun x4 => PI.asInt .i64 x4[0]? fun x5 => PI.asInt .i64 x4[1]? fun x6 => asOsl x4[2]? fun x7 x8 => bif x5 != 0 then some (V.tup [V.int .i64 x6, V.sl x7 x8,
 V.int .i64 x5]) else O.L 0 43 0 [true, true, false, true] [] m [(0, V.sl y1 y2), (2, V.ptr 0 0), (4, V.ptr 2 0), (5, V.int .i64 (IntKind.i64.wrap (y3 + 1)))] [Ob.box 29 [V.int .i64 y4, V.ref 1] false,
 Ob.row 52 y5 y6 false, Ob.box 29 [V.int .i64 x6, V.ref 3] false, Ob.row 52 x7 x8 false])) else some (V.tup [V.int .i64 y7, V.sl y8 y9, V.int .i64 0])
theorem e43l1 (k m q0 q1 : Nat) (y1 : Nat) (y2 : List V) (y3 : Int) (y4 : Int) (y5 : Nat) (y6 : List V) (y7 : Int) (y8 : Nat) (y9 : List V) : runL C k 43 0 [true, true, false, true] [] (m + 1) [(0,
 V.sl y1 y2), (2, V.ptr 0 0), (4, V.ptr 2 0), (5, V.int .i64 y3)] [Ob.box 29 [V.int .i64 y4, V.ref 1] false, Ob.row 52 y5 y6 false, Ob.box 29 [V.int .i64 y7, V.ref 3] false, Ob.row 52 y8 y9 false] =
 T43l1 (orc C k) k m q0 q1 y1 y2 y3 y4 y5 y6 y7 y8 y9 := by kernel_rfl
theorem E43l1 (y1 : Nat) (y2 : List V) (y3 : Int) (y4 : Int) (y5 : Nat) (y6 : List V) (y7 : Int) (y8 : Nat) (y9 : List V) {r : V} (h : T43l1 (orcE C) 0 0 0 0 y1 y2 y3 y4 y5 y6 y7 y8 y9 = some r) :
 loopE C 43 0 [true, true, false, true] [] [(0, V.sl y1 y2), (2, V.ptr 0 0), (4, V.ptr 2 0), (5, V.int .i64 y3)] [Ob.box 29 [V.int .i64 y4, V.ref 1] false, Ob.row 52 y5 y6 false, Ob.box 29 [V.int .i64
 y7, V.ref 3] false, Ob.row 52 y8 y9 false] = some r := ofL (j := 0) (F := fun s => T43l1 (orc C s.k) s.k s.m 0 0 y1 y2 y3 y4 y5 y6 y7 y8 y9) (fs0 fun k m => e43l1 k m 0 0 y1 y2 y3 y4 y5 y6 y7 y8 y9) (by
  unfold T43l1
  exact
    cF (cM ((cM ((cL (fun _ _ => cN cQ (fun _ => cT (fun _ => cI (fun _ => cI (fun _ => cO (fun _ _ => cF (cC) (cD0 gM )))))))))))) (cC)) h

noncomputable def T44 (O : Orc) (k m q0 q1 : Nat) (y1 : Nat) (y2 : List V) (y3 : Nat) (y4 : List V) : Option V := bif decide (IntKind.i64.wrap ((↑y1 : Int) + (↑y3 : Int)) > 2000) then some (V.tup
 [V.int .i64 2]) else some (V.tup [V.int .i64 0])
theorem e44 (k m q0 q1 : Nat) (y1 : Nat) (y2 : List V) (y3 : Nat) (y4 : List V) : runV C (k + 1) 44 [V.agg [V.sl y1 y2, V.sl y3 y4]] = T44 (orc C k) k m q0 q1 y1 y2 y3 y4 := by kernel_rfl
theorem E44 (y1 : Nat) (y2 : List V) (y3 : Nat) (y4 : List V) {r : V} (h : T44 (orcE C) 0 0 0 0 y1 y2 y3 y4 = some r) : runE C 44 [V.agg [V.sl y1 y2, V.sl y3 y4]] = some r := ofR (F := fun s => T44
 (orc C s.k) s.k s.m 0 0 y1 y2 y3 y4) (fun k => e44 k k 0 0 y1 y2 y3 y4) (by
  unfold T44
  exact
    cF (cC) (cC)) h

noncomputable def T46 (O : Orc) (k m q0 q1 : Nat) (y1 : Nat) (y2 : List V) : Option V := O.L 0 46 0 [true, true, false, true] [] k [(0, V.sl y1 y2), (3, V.int .i64 0), (9, V.sl y1 y2), (10, V.int .i64
 (↑y1 : Int)), (11, V.int .i64 0)] []
theorem e46 (k m q0 q1 : Nat) (y1 : Nat) (y2 : List V) : runV C (k + 1) 46 [V.sl y1 y2] = T46 (orc C k) k m q0 q1 y1 y2 := by kernel_rfl
theorem E46 (y1 : Nat) (y2 : List V) {r : V} (h : T46 (orcE C) 0 0 0 0 y1 y2 = some r) : runE C 46 [V.sl y1 y2] = some r := ofR (F := fun s => T46 (orc C s.k) s.k s.m 0 0 y1 y2) (fun k => e46 k k 0 0
 y1 y2) (by
  unfold T46
  exact
    cD0 gK ) h

noncomputable def T45 (O : Orc) (k m q0 q1 : Nat) (y1 : Nat) (y2 : List V) : Option V := bif decide ((↑y1 : Int) > 2000) then some (V.tup [V.int .i64 2, V.int .i64 0, V.sl 0 []]) else need (O.R 0 71
 [V.sl y1 y2]) fun x1 => asTup (some x1) fun x2 => asSl x2[0]? fun x3 x4 => PI.asInt .i64 x2[1]? fun x5 => some (V.tup [V.int .i64 0, V.int .i64 x5, V.sl x3 x4])
theorem e45 (k m q0 q1 : Nat) (y1 : Nat) (y2 : List V) : runV C (k + 1) 45 [V.sl y1 y2] = T45 (orc C k) k m q0 q1 y1 y2 := by kernel_rfl
theorem E45 (y1 : Nat) (y2 : List V) {r : V} (h : T45 (orcE C) 0 0 0 0 y1 y2 = some r) : runE C 45 [V.sl y1 y2] = some r := ofR (F := fun s => T45 (orc C s.k) s.k s.m 0 0 y1 y2) (fun k => e45 k k 0 0
 y1 y2) (by
  unfold T45
  exact
    cF (cC) (cN cR (fun _ => cT (fun _ => cL (fun _ _ => cI (fun _ => cC)))))) h

noncomputable def T37 (O : Orc) (k m q0 q1 : Nat) (y1 : Nat) (y2 : List V) (y3 : Int) (y4 : Nat) (y5 : List V) : Option V := need (O.R 0 60 [V.sl y1 y2]) fun x1 => asTup (some x1) fun x2 => PI.asInt
 .i64 x2[0]? fun x3 => PI.asInt .i64 x2[1]? fun x4 => PI.asInt .i64 x2[2]? fun x5 => PI.asBool x2[3]? fun x6 => bif !x6 then must (false || y5.all flatV) (some (V.tup [V.int .i64 5, V.int .i64 y3,
 V.osl y4 y5])) else bif x3 == 1 then need (O.W 0 61 [] [V.ptr 0 0, V.int .i64 x4] [Ob.box 29 [V.int .i64 y3, V.ref 1] false, Ob.row 52 y4 y5 false]) fun x7 => asTup (some x7) fun x8 => PI.asInt .i64
 x8[0]? fun x9 => PI.asInt .i64 x8[1]? fun x10 => asOsl x8[2]? fun x11 x12 => must (false || x12.all flatV) (some (V.tup [V.int .i64 x9, V.int .i64 x10, V.osl x11 x12])) else bif x3 == 2 then need (O.W
 0 62 [] [V.ptr 0 0, V.int .i64 x4, V.int .i64 x5] [Ob.box 29 [V.int .i64 y3, V.ref 1] false, Ob.row 52 y4 y5 false]) fun x13 => asTup (some x13) fun x14 => PI.asInt .i64 x14[0]? fun x15 => PI.asInt
 .i64 x14[1]? fun x16 => asOsl x14[2]? fun x17 x18 => must (false || x18.all flatV) (some (V.tup [V.int .i64 x15, V.int .i64 x16, V.osl x17 x18])) else need (O.W 0 63 [] [V.ptr 0 0, V.int .i64 x4]
 [Ob.box 29 [V.int .i64 y3, V.ref 1] false, Ob.row 52 y4 y5 false]) fun x19 => asTup (some x19) fun x20 => PI.asInt .i64 x20[0]? fun x21 => PI.asInt .i64 x20[1]? fun x22 => asOsl x20[2]? fun x23 x24 =>
 must (false || x24.all flatV) (some (V.tup [V.int .i64 x21, V.int .i64 x22, V.osl x23 x24]))
theorem e37 (k m q0 q1 : Nat) (y1 : Nat) (y2 : List V) (y3 : Int) (y4 : Nat) (y5 : List V) : runW C (k + 1) 37 [] [V.ptr 0 0, V.sl y1 y2] [Ob.box 29 [V.int .i64 y3, V.ref 1] false, Ob.row 52 y4 y5
 false] = T37 (orc C k) k m q0 q1 y1 y2 y3 y4 y5 := by kernel_rfl
theorem E37 (y1 : Nat) (y2 : List V) (y3 : Int) (y4 : Nat) (y5 : List V) {r : V} (h : T37 (orcE C) 0 0 0 0 y1 y2 y3 y4 y5 = some r) : runWE C 37 [] [V.ptr 0 0, V.sl y1 y2] [Ob.box 29 [V.int .i64 y3,
 V.ref 1] false, Ob.row 52 y4 y5 false] = some r := ofW (F := fun s => T37 (orc C s.k) s.k s.m 0 0 y1 y2 y3 y4 y5) (fun k => e37 k k 0 0 y1 y2 y3 y4 y5) (by
  unfold T37
  exact
    cN cR (fun _ => cT (fun _ => cI (fun _ => cI (fun _ => cI (fun _ => cB (fun _ => cF (cM ((cC))) (cF (cN cQ (fun _ => cT (fun _ => cI (fun _ => cI (fun _ => cO (fun _ _ => cM ((cC)))))))) (cF (cN cQ
    (fun _ => cT (fun _ => cI (fun _ => cI (fun _ => cO (fun _ _ => cM ((cC)))))))) (cN cQ (fun _ => cT (fun _ => cI (fun _ => cI (fun _ => cO (fun _ _ => cM ((cC))))))))))))))))) h

noncomputable def T58 (O : Orc) (k m q0 q1 : Nat) (y1 : Int) (y2 : Int) (y3 : Int) : Option V := some (V.tup [V.int .i64 y1, V.int .i64 y2, V.int .i64 y3])
theorem e58 (k m q0 q1 : Nat) (y1 : Int) (y2 : Int) (y3 : Int) : runV C (k + 1) 58 [V.agg [V.int .i64 y1, V.int .i64 y2, V.int .i64 y3]] = T58 (orc C k) k m q0 q1 y1 y2 y3 := by kernel_rfl
theorem E58 (y1 : Int) (y2 : Int) (y3 : Int) {r : V} (h : T58 (orcE C) 0 0 0 0 y1 y2 y3 = some r) : runE C 58 [V.agg [V.int .i64 y1, V.int .i64 y2, V.int .i64 y3]] = some r := ofR (F := fun s => T58
 (orc C s.k) s.k s.m 0 0 y1 y2 y3) (fun k => e58 k k 0 0 y1 y2 y3) (by
  unfold T58
  exact
    cC) h

noncomputable def T52l1 (O : Orc) (k m q0 q1 : Nat) (y1 : Nat) (y2 : List V) (y3 : Int) (y4 : Int) : Option V := bif decide (y4 < (↑y1 : Int)) then must (inB y4 y1) (PI.asInt .u8 y2[y4.toNat * 1]? fun
 x1 => O.L 0 52 0 [true, true, false, true] [] m [(0, V.sl y1 y2), (3, V.int .i64 (IntKind.i64.wrap (IntKind.i64.wrap (y3 * 256) + IntKind.i64.wrap x1))), (4, V.int .i64 (IntKind.i64.wrap (y4 + 1)))]
 []) else some (V.tup [V.int .i64 y3])
theorem e52l1 (k m q0 q1 : Nat) (y1 : Nat) (y2 : List V) (y3 : Int) (y4 : Int) : runL C k 52 0 [true, true, false, true] [] (m + 1) [(0, V.sl y1 y2), (3, V.int .i64 y3), (4, V.int .i64 y4)] [] = T52l1
 (orc C k) k m q0 q1 y1 y2 y3 y4 := by kernel_rfl
theorem E52l1 (y1 : Nat) (y2 : List V) (y3 : Int) (y4 : Int) {r : V} (h : T52l1 (orcE C) 0 0 0 0 y1 y2 y3 y4 = some r) : loopE C 52 0 [true, true, false, true] [] [(0, V.sl y1 y2), (3, V.int .i64 y3),
 (4, V.int .i64 y4)] [] = some r := ofL (j := 0) (F := fun s => T52l1 (orc C s.k) s.k s.m 0 0 y1 y2 y3 y4) (fs0 fun k m => e52l1 k m 0 0 y1 y2 y3 y4) (by
  unfold T52l1
  exact
    cF (cM ((cI (fun _ => cD0 gM )))) (cC)) h

noncomputable def T74 (O : Orc) (k m q0 q1 : Nat) (y1 : Int) (y2 : Int) (y3 : Int) : Option V := need (O.R 0 92 [V.int .i64 y2]) fun x1 => asTup (some x1) fun x2 => asSl x2[0]? fun x3 x4 => must
 (decide (x4.length = x3 * 1)) (must (true && (1 + x3).ble 140737488355328 && ((1 + x3) * 1).ble 140737488355328) (bif y1 == 2 then need (O.R 0 92 [V.int .i64 y3]) fun x5 => asTup (some x5) fun x6 =>
 asSl x6[0]? fun x7 x8 => must (decide (x8.length = x7 * 1)) (must (true && (1 + x3 + x7).ble 140737488355328 && ((1 + x3 + x7) * 1).ble 140737488355328) (some (V.tup [V.sl (1 + x3 + x7) (V.int .u8
 (IntKind.u8.wrap y1) :: x4 ++ x8)]))) else some (V.tup [V.sl (1 + x3) (V.int .u8 (IntKind.u8.wrap y1) :: x4)])))
theorem e74 (k m q0 q1 : Nat) (y1 : Int) (y2 : Int) (y3 : Int) : runV C (k + 1) 74 [V.int .i64 y1, V.int .i64 y2, V.int .i64 y3] = T74 (orc C k) k m q0 q1 y1 y2 y3 := by kernel_rfl
theorem E74 (y1 : Int) (y2 : Int) (y3 : Int) {r : V} (h : T74 (orcE C) 0 0 0 0 y1 y2 y3 = some r) : runE C 74 [V.int .i64 y1, V.int .i64 y2, V.int .i64 y3] = some r := ofR (F := fun s => T74 (orc C
 s.k) s.k s.m 0 0 y1 y2 y3) (fun k => e74 k k 0 0 y1 y2 y3) (by
  unfold T74
  exact
    cN cR (fun _ => cT (fun _ => cL (fun _ _ => cM ((cM ((cF (cN cR (fun _ => cT (fun _ => cL (fun _ _ => cM ((cM ((cC)))))))) (cC))))))))) h

noncomputable def T75 (O : Orc) (k m q0 q1 : Nat) (y1 : Nat) (y2 : List V) (y3 : Nat) (y4 : List V) : Option V := O.L 0 75 0 [true, false, true] [] k [(0, V.sl y1 y2), (1, V.sl y3 y4), (5, V.int .i64
 0)] []
theorem e75 (k m q0 q1 : Nat) (y1 : Nat) (y2 : List V) (y3 : Nat) (y4 : List V) : runV C (k + 1) 75 [V.sl y1 y2, V.sl y3 y4] = T75 (orc C k) k m q0 q1 y1 y2 y3 y4 := by kernel_rfl
theorem E75 (y1 : Nat) (y2 : List V) (y3 : Nat) (y4 : List V) {r : V} (h : T75 (orcE C) 0 0 0 0 y1 y2 y3 y4 = some r) : runE C 75 [V.sl y1 y2, V.sl y3 y4] = some r := ofR (F := fun s => T75 (orc C s.k)
 s.k s.m 0 0 y1 y2 y3 y4) (fun k => e75 k k 0 0 y1 y2 y3 y4) (by
  unfold T75
  exact
    cD0 gK ) h

noncomputable def T76 (O : Orc) (k m q0 q1 : Nat) (y1 : Int) (y2 : Nat) (y3 : List V) (y4 : Int) : Option V := O.L 0 76 0 [true, false, true] [] k [(0, V.pin [V.int .i64 y1, V.sl y2 y3] 0), (1, V.int
 .i64 y4), (5, V.int .i64 0)] []
theorem e76 (k m q0 q1 : Nat) (y1 : Int) (y2 : Nat) (y3 : List V) (y4 : Int) : runV C (k + 1) 76 [V.pin [V.int .i64 y1, V.sl y2 y3] 0, V.int .i64 y4] = T76 (orc C k) k m q0 q1 y1 y2 y3 y4 := by
 kernel_rfl
theorem E76 (y1 : Int) (y2 : Nat) (y3 : List V) (y4 : Int) {r : V} (h : T76 (orcE C) 0 0 0 0 y1 y2 y3 y4 = some r) : runE C 76 [V.pin [V.int .i64 y1, V.sl y2 y3] 0, V.int .i64 y4] = some r := ofR (F :=
 fun s => T76 (orc C s.k) s.k s.m 0 0 y1 y2 y3 y4) (fun k => e76 k k 0 0 y1 y2 y3 y4) (by
  unfold T76
  exact
    cD0 gK ) h

noncomputable def T77 (O : Orc) (k m q0 q1 : Nat) (y1 : Int) (y2 : Int) : Option V := bif decide (y1 < y2) then some (V.tup [V.int .i64 y1]) else some (V.tup [V.int .i64 y2])
theorem e77 (k m q0 q1 : Nat) (y1 : Int) (y2 : Int) : runV C (k + 1) 77 [V.int .i64 y1, V.int .i64 y2] = T77 (orc C k) k m q0 q1 y1 y2 := by kernel_rfl
theorem E77 (y1 : Int) (y2 : Int) {r : V} (h : T77 (orcE C) 0 0 0 0 y1 y2 = some r) : runE C 77 [V.int .i64 y1, V.int .i64 y2] = some r := ofR (F := fun s => T77 (orc C s.k) s.k s.m 0 0 y1 y2) (fun k
 => e77 k k 0 0 y1 y2) (by
  unfold T77
  exact
    cF (cC) (cC)) h

noncomputable def T47 (O : Orc) (k m q0 q1 : Nat) (y1 : Int) (y2 : Int) (y3 : Int) : Option V := bif decide (y2 ≤ y1) then some (V.tup [V.bool (decide (y1 ≤ y3))]) else some (V.tup [V.bool false])
theorem e47 (k m q0 q1 : Nat) (y1 : Int) (y2 : Int) (y3 : Int) : runV C (k + 1) 47 [V.int .i64 y1, V.int .i64 y2, V.int .i64 y3] = T47 (orc C k) k m q0 q1 y1 y2 y3 := by kernel_rfl
theorem E47 (y1 : Int) (y2 : Int) (y3 : Int) {r : V} (h : T47 (orcE C) 0 0 0 0 y1 y2 y3 = some r) : runE C 47 [V.int .i64 y1, V.int .i64 y2, V.int .i64 y3] = some r := ofR (F := fun s => T47 (orc C
 s.k) s.k s.m 0 0 y1 y2 y3) (fun k => e47 k k 0 0 y1 y2 y3) (by
  unfold T47
  exact
    cF (cC) (cC)) h

noncomputable def T23l1 (O : Orc) (k m q0 q1 : Nat) (y1 : Nat) (y2 : List V) (y3 : Int) (y4 : Int) (y5 : Int) (y6 : Nat) (y7 : List V) : Option V := bif decide (y4 < y3) then must (inB y4 y1) (PI.asInt
 .i64 y2[y4.toNat * 3]? fun x1 => PI.asInt .i64 y2[y4.toNat * 3 + 1]? fun x2 => PI.asInt .i64 y2[y4.toNat * 3 + 1 + 1]? fun x3 => need (O.R 0 47 [V.int .i64 x1, V.int .i64 1, V.int .i64 y5]) fun x4 =>
 asTup (some x4) fun x5 => PI.asBool x5[0]? fun x6 => bif !x6 then some (V.tup [V.int .i64 3]) else need (O.R 0 47 [V.int .i64 x2, V.int .i64 0, V.int .i64 8]) fun x7 => asTup (some x7) fun x8 =>
 PI.asBool x8[0]? fun x9 => bif !x9 then some (V.tup [V.int .i64 3]) else need (O.R 0 47 [V.int .i64 x3, V.int .i64 0, V.int .i64 2199023255552]) fun x10 => asTup (some x10) fun x11 => PI.asBool
 x11[0]? fun x12 => bif !x12 then some (V.tup [V.int .i64 3]) else bif decide (y4 > 0) then must (inB (IntKind.i64.wrap (y4 - 1)) y6) (PI.asInt .i64 y7[(IntKind.i64.wrap (y4 - 1)).toNat * 3 + 0]? fun
 x13 => bif decide (x13 ≥ x1) then some (V.tup [V.int .i64 1]) else O.L 0 23 1 [true, true, false, true] [] m [(1, V.ptr 0 0), (16, V.sl y1 y2), (17, V.int .i64 y3), (18, V.int .i64 (IntKind.i64.wrap
 (y4 + 1)))] [Ob.box 29 [V.int .i64 y5, V.sl y6 y7] false]) else O.L 0 23 1 [true, true, false, true] [] m [(1, V.ptr 0 0), (16, V.sl y1 y2), (17, V.int .i64 y3), (18, V.int .i64 (IntKind.i64.wrap (y4
 + 1)))] [Ob.box 29 [V.int .i64 y5, V.sl y6 y7] false]) else some (V.tup [V.int .i64 0])
theorem e23l1 (k m q0 q1 : Nat) (y1 : Nat) (y2 : List V) (y3 : Int) (y4 : Int) (y5 : Int) (y6 : Nat) (y7 : List V) : runL C k 23 1 [true, true, false, true] [] (m + 1) [(1, V.ptr 0 0), (16, V.sl y1
 y2), (17, V.int .i64 y3), (18, V.int .i64 y4)] [Ob.box 29 [V.int .i64 y5, V.sl y6 y7] false] = T23l1 (orc C k) k m q0 q1 y1 y2 y3 y4 y5 y6 y7 := by kernel_rfl
theorem E23l1 (y1 : Nat) (y2 : List V) (y3 : Int) (y4 : Int) (y5 : Int) (y6 : Nat) (y7 : List V) {r : V} (h : T23l1 (orcE C) 0 0 0 0 y1 y2 y3 y4 y5 y6 y7 = some r) : loopE C 23 1 [true, true, false,
 true] [] [(1, V.ptr 0 0), (16, V.sl y1 y2), (17, V.int .i64 y3), (18, V.int .i64 y4)] [Ob.box 29 [V.int .i64 y5, V.sl y6 y7] false] = some r := ofL (j := 0) (F := fun s => T23l1 (orc C s.k) s.k s.m 0
 0 y1 y2 y3 y4 y5 y6 y7) (fs0 fun k m => e23l1 k m 0 0 y1 y2 y3 y4 y5 y6 y7) (by
  unfold T23l1
  exact
    cF (cM ((cI (fun _ => cI (fun _ => cI (fun _ => cN cR (fun _ => cT (fun _ => cB (fun _ => cF (cC) (cN cR (fun _ => cT (fun _ => cB (fun _ => cF (cC) (cN cR (fun _ => cT (fun _ => cB (fun _ => cF (cC)
    (cF (cM ((cI (fun _ => cF (cC) (cD0 gM ))))) (cD0 gM ))))))))))))))))))) (cC)) h

noncomputable def T78 (O : Orc) (k m q0 q1 : Nat) (y1 : Nat) (y2 : List V) : Option V := bif y1.beq (OfNat.ofNat 0) then both (some (V.tup [V.osl 0 []])) (must (decide (y2.length = y1 * 3)) (must (true
 && (0 + y1).ble 140737488355328 && ((0 + y1) * 24).ble 140737488355328) (must (false || y2.all flatV) (some (V.tup [V.osl (0 + y1) y2]))))) else must (decide (y2.length = y1 * 3)) (must (true && (0 +
 y1).ble 140737488355328 && ((0 + y1) * 24).ble 140737488355328) (must (false || y2.all flatV) (some (V.tup [V.osl (0 + y1) y2]))))
theorem e78 (k m q0 q1 : Nat) (y1 : Nat) (y2 : List V) : runV C (k + 1) 78 [V.sl y1 y2] = T78 (orc C k) k m q0 q1 y1 y2 := by kernel_rfl
theorem E78 (y1 : Nat) (y2 : List V) {r : V} (h : T78 (orcE C) 0 0 0 0 y1 y2 = some r) : runE C 78 [V.sl y1 y2] = some r := ofR (F := fun s => T78 (orc C s.k) s.k s.m 0 0 y1 y2) (fun k => e78 k k 0 0
 y1 y2) (by
  unfold T78
  exact
    cF (cW ((cC)) ((cM ((cM ((cM ((cC))))))))) (cM ((cM ((cM ((cC)))))))) h

noncomputable def T64 (O : Orc) (k m q0 q1 : Nat) (y1 : Int) (y2 : Int) (y3 : Int) (y4 : Int) (y5 : Int) (y6 : Int) : Option V := bif y1 != y4 then some (V.tup [V.bool false]) else bif y2 != y5 then
 some (V.tup [V.bool false]) else bif y3 != y6 then some (V.tup [V.bool false]) else some (V.tup [V.bool true])
theorem e64 (k m q0 q1 : Nat) (y1 : Int) (y2 : Int) (y3 : Int) (y4 : Int) (y5 : Int) (y6 : Int) : runV C (k + 1) 64 [V.agg [V.int .i64 y1, V.int .i64 y2, V.int .i64 y3], V.agg [V.int .i64 y4, V.int
 .i64 y5, V.int .i64 y6]] = T64 (orc C k) k m q0 q1 y1 y2 y3 y4 y5 y6 := by kernel_rfl
theorem E64 (y1 : Int) (y2 : Int) (y3 : Int) (y4 : Int) (y5 : Int) (y6 : Int) {r : V} (h : T64 (orcE C) 0 0 0 0 y1 y2 y3 y4 y5 y6 = some r) : runE C 64 [V.agg [V.int .i64 y1, V.int .i64 y2, V.int .i64
 y3], V.agg [V.int .i64 y4, V.int .i64 y5, V.int .i64 y6]] = some r := ofR (F := fun s => T64 (orc C s.k) s.k s.m 0 0 y1 y2 y3 y4 y5 y6) (fun k => e64 k k 0 0 y1 y2 y3 y4 y5 y6) (by
  unfold T64
  exact
    cF (cC) (cF (cC) (cF (cC) (cC)))) h

noncomputable def T65l1 (O : Orc) (k m q0 q1 : Nat) (y1 : Nat) (y2 : List V) (y3 : Int) (y4 : Int) : Option V := bif decide (y4 < (↑y1 : Int)) then must (inB y4 y1) (PI.asInt .i64 y2[y4.toNat * 3 + 0]?
 fun x1 => bif x1 != y3 then some (V.tup [V.int .i64 (-1)]) else must (inB y4 y1) (PI.asInt .i64 y2[y4.toNat * 3 + 1]? fun x2 => bif x2 != IntKind.i64.wrap (y3 + 1) then some (V.tup [V.int .i64 (-1)])
 else must (inB y4 y1) (PI.asInt .i64 y2[y4.toNat * 3 + 2]? fun x3 => bif x3 != IntKind.i64.wrap (IntKind.i64.wrap (y3 + 1) + 1) then some (V.tup [V.int .i64 (-1)]) else O.L 0 65 0 [true, false, true]
 [] m [(0, V.sl y1 y2), (1, V.int .i64 (IntKind.i64.wrap (IntKind.i64.wrap (IntKind.i64.wrap (y3 + 1) + 1) + 1))), (5, V.int .i64 (IntKind.i64.wrap (y4 + 1)))] []))) else some (V.tup [V.int .i64 y3])
theorem e65l1 (k m q0 q1 : Nat) (y1 : Nat) (y2 : List V) (y3 : Int) (y4 : Int) : runL C k 65 0 [true, false, true] [] (m + 1) [(0, V.sl y1 y2), (1, V.int .i64 y3), (5, V.int .i64 y4)] [] = T65l1 (orc C
 k) k m q0 q1 y1 y2 y3 y4 := by kernel_rfl
theorem E65l1 (y1 : Nat) (y2 : List V) (y3 : Int) (y4 : Int) {r : V} (h : T65l1 (orcE C) 0 0 0 0 y1 y2 y3 y4 = some r) : loopE C 65 0 [true, false, true] [] [(0, V.sl y1 y2), (1, V.int .i64 y3), (5,
 V.int .i64 y4)] [] = some r := ofL (j := 0) (F := fun s => T65l1 (orc C s.k) s.k s.m 0 0 y1 y2 y3 y4) (fs0 fun k m => e65l1 k m 0 0 y1 y2 y3 y4) (by
  unfold T65l1
  exact
    cF (cM ((cI (fun _ => cF (cC) (cM ((cI (fun _ => cF (cC) (cM ((cI (fun _ => cF (cC) (cD0 gM ))))))))))))) (cC)) h

noncomputable def T49l1 (O : Orc) (k m q0 q1 : Nat) (y1 : Nat) (y2 : List V) (y3 : Int) (y4 : Int) (y5 : Int) (y6 : Nat) (y7 : List V) (y8 : Int) (y9 : Int) (y10 : Nat) (y11 : List V) : Option V := bif
 decide (y3 < (↑y1 : Int)) then must (inB y3 y1) (PI.asInt .u8 y2[y3.toNat * 1]? fun x1 => bif IntKind.i64.wrap x1 == 0 then some (V.tup [V.int .i64 y8, V.int .i64 y3, V.sl y10 y11]) else bif decide
 (IntKind.i64.wrap x1 > 60) then some (V.tup [V.int .i64 y8, V.int .i64 y3, V.sl y10 y11]) else bif decide (IntKind.i64.wrap (IntKind.i64.wrap (y3 + IntKind.i64.wrap x1) + 5) > (↑y1 : Int)) then some
 (V.tup [V.int .i64 y8, V.int .i64 y3, V.sl y10 y11]) else must (decide (0 ≤ IntKind.i64.wrap (IntKind.i64.wrap (y3 + 1) + IntKind.i64.wrap x1)) && decide (IntKind.i64.wrap (IntKind.i64.wrap (y3 + 1) +
 IntKind.i64.wrap x1) ≤ (↑y1 : Int))) (must (decide (0 ≤ IntKind.i64.wrap (y3 + 1)) && decide (IntKind.i64.wrap (y3 + 1) ≤ (↑(IntKind.i64.wrap (IntKind.i64.wrap (y3 + 1) + IntKind.i64.wrap x1)).toNat :
 Int))) (must (decide (0 ≤ IntKind.i64.wrap (IntKind.i64.wrap (y3 + IntKind.i64.wrap x1) + 5)) && decide (IntKind.i64.wrap (IntKind.i64.wrap (y3 + IntKind.i64.wrap x1) + 5) ≤ (↑y1 : Int))) (must
 (decide (0 ≤ y3) && decide (y3 ≤ (↑(IntKind.i64.wrap (IntKind.i64.wrap (y3 + IntKind.i64.wrap x1) + 5)).toNat : Int))) (need (O.R 0 73 [V.sl ((IntKind.i64.wrap (IntKind.i64.wrap (y3 + 1) +
 IntKind.i64.wrap x1)).toNat - (IntKind.i64.wrap (y3 + 1)).toNat) (List.take (((IntKind.i64.wrap (IntKind.i64.wrap (y3 + 1) + IntKind.i64.wrap x1)).toNat - (IntKind.i64.wrap (y3 + 1)).toNat) * 1)
 (List.drop ((IntKind.i64.wrap (y3 + 1)).toNat * 1) y2))]) fun x2 => asTup (some x2) fun x3 => asSl x3[0]? fun x4 x5 => need (O.R 0 54 [V.sl x4 x5, V.sl ((IntKind.i64.wrap (IntKind.i64.wrap (y3 +
 IntKind.i64.wrap x1) + 5)).toNat - y3.toNat) (List.take (((IntKind.i64.wrap (IntKind.i64.wrap (y3 + IntKind.i64.wrap x1) + 5)).toNat - y3.toNat) * 1) (List.drop (y3.toNat * 1) y2))]) fun x6 => asTup
 (some x6) fun x7 => PI.asBool x7[0]? fun x8 => bif !x8 then some (V.tup [V.int .i64 y8, V.int .i64 y3, V.sl y10 y11]) else must (decide ((List.take (((IntKind.i64.wrap (IntKind.i64.wrap (y3 + 1) +
 IntKind.i64.wrap x1)).toNat - (IntKind.i64.wrap (y3 + 1)).toNat) * 1) (List.drop ((IntKind.i64.wrap (y3 + 1)).toNat * 1) y2)).length = ((IntKind.i64.wrap (IntKind.i64.wrap (y3 + 1) + IntKind.i64.wrap
 x1)).toNat - (IntKind.i64.wrap (y3 + 1)).toNat) * 1)) (must (true && (0 + ((IntKind.i64.wrap (IntKind.i64.wrap (y3 + 1) + IntKind.i64.wrap x1)).toNat - (IntKind.i64.wrap (y3 + 1)).toNat)).ble
 140737488355328 && ((0 + ((IntKind.i64.wrap (IntKind.i64.wrap (y3 + 1) + IntKind.i64.wrap x1)).toNat - (IntKind.i64.wrap (y3 + 1)).toNat)) * 1).ble 140737488355328) (must (true && (y10 + 1).ble
 140737488355328 && ((y10 + 1) * 24).ble 140737488355328) (O.L 0 49 0 [true, true, true, false] [] m [(0, V.sl y1 y2), (2, V.ptr 0 0), (3, V.ptr 2 0), (4, V.int .i64 (IntKind.i64.wrap (IntKind.i64.wrap
 (y3 + IntKind.i64.wrap x1) + 5)))] [Ob.box 49 [V.int .i64 y4, V.int .i64 y5, V.ref 1] false, Ob.row 25 y6 y7 false, Ob.box 49 [V.int .i64 y8, V.int .i64 y9, V.ref 3] false, Ob.row 25 (y10 + 1) (y11 ++
 [V.sl (0 + ((IntKind.i64.wrap (IntKind.i64.wrap (y3 + 1) + IntKind.i64.wrap x1)).toNat - (IntKind.i64.wrap (y3 + 1)).toNat)) (List.take (((IntKind.i64.wrap (IntKind.i64.wrap (y3 + 1) +
 IntKind.i64.wrap x1)).toNat - (IntKind.i64.wrap (y3 + 1)).toNat) * 1) (List.drop ((IntKind.i64.wrap (y3 + 1)).toNat * 1) y2))]) false])))))))) else some (V.tup [V.int .i64 y8, V.int .i64 y3, V.sl y10
 y11])
theorem e49l1 (k m q0 q1 : Nat) (y1 : Nat) (y2 : List V) (y3 : Int) (y4 : Int) (y5 : Int) (y6 : Nat) (y7 : List V) (y8 : Int) (y9 : Int) (y10 : Nat) (y11 : List V) : runL C k 49 0 [true, true, true,
 false] [] (m + 1) [(0, V.sl y1 y2), (2, V.ptr 0 0), (3, V.ptr 2 0), (4, V.int .i64 y3)] [Ob.box 49 [V.int .i64 y4, V.int .i64 y5, V.ref 1] false, Ob.row 25 y6 y7 false, Ob.box 49 [V.int .i64 y8, V.int
 .i64 y9, V.ref 3] false, Ob.row 25 y10 y11 false] = T49l1 (orc C k) k m q0 q1 y1 y2 y3 y4 y5 y6 y7 y8 y9 y10 y11 := by kernel_rfl
theorem E49l1 (y1 : Nat) (y2 : List V) (y3 : Int) (y4 : Int) (y5 : Int) (y6 : Nat) (y7 : List V) (y8 : Int) (y9 : Int) (y10 : Nat) (y11 : List V) {r : V} (h : T49l1 (orcE C) 0 0 0 0 y1 y2 y3 y4 y5 y6
 y7 y8 y9 y10 y11 = some r) : loopE C 49 0 [true, true, true, false] [] [(0, V.sl y1 y2), (2, V.ptr 0 0), (3, V.ptr 2 0), (4, V.int .i64 y3)] [Ob.box 49 [V.int .i64 y4, V.int .i64 y5, V.ref 1] false,
 Ob.row 25 y6 y7 false, Ob.box 49 [V.int .i64 y8, V.int .i64 y9, V.ref 3] false, Ob.row 25 y10 y11 false] = some r := ofL (j := 0) (F := fun s => T49l1 (orc C s.k) s.k s.m 0 0 y1 y2 y3 y4 y5 y6 y7 y8
 y9 y10 y11) (fs0 fun k m => e49l1 k m 0 0 y1 y2 y3 y4 y5 y6 y7 y8 y9 y10 y11) (by
  unfold T49l1
  exact
    cF (cM ((cI (fun _ => cF (cC) (cF (cC) (cF (cC) (cM ((cM ((cM ((cM ((cN cR (fun _ => cT (fun _ => cL (fun _ _ => cN cR (fun _ => cT (fun _ => cB (fun _ => cF (cC) (cM ((cM ((cM ((cD0 gM
    )))))))))))))))))))))))))))) (cC)) h

noncomputable def T46l1 (O : Orc) (k m q0 q1 : Nat) (y1 : Nat) (y2 : List V) (y3 : Int) (y4 : Nat) (y5 : List V) (y6 : Int) (y7 : Int) : Option V := bif decide (y7 < y6) then must (inB y7 y4) (must
 (decide (y7.toNat * 1 < y5.length)) (asSl y5[y7.toNat * 1]? fun x1 x2 => bif decide (IntKind.i64.wrap (y3 + (↑x1 : Int)) < 0) then none else O.L 0 46 0 [true, true, false, true] [] m [(0, V.sl y1 y2),
 (3, V.int .i64 (IntKind.i64.wrap (y3 + (↑x1 : Int)))), (9, V.sl y4 y5), (10, V.int .i64 y6), (11, V.int .i64 (IntKind.i64.wrap (y7 + 1)))] [])) else must (decide (0 ≤ y3) && decide (y3 * 1 ≤
 140737488355328) && decide (y3 ≤ 4611686018427387904)) (O.L 0 46 2 [true, true, true, true, false, true] [] k [(6, V.ref 0), (25, V.sl y1 y2), (26, V.int .i64 (↑y1 : Int)), (27, V.int .i64 0)] [Ob.row
 5 0 [] false])
theorem e46l1 (k m q0 q1 : Nat) (y1 : Nat) (y2 : List V) (y3 : Int) (y4 : Nat) (y5 : List V) (y6 : Int) (y7 : Int) : runL C k 46 0 [true, true, false, true] [] (m + 1) [(0, V.sl y1 y2), (3, V.int .i64
 y3), (9, V.sl y4 y5), (10, V.int .i64 y6), (11, V.int .i64 y7)] [] = T46l1 (orc C k) k m q0 q1 y1 y2 y3 y4 y5 y6 y7 := by kernel_rfl
theorem E46l1 (y1 : Nat) (y2 : List V) (y3 : Int) (y4 : Nat) (y5 : List V) (y6 : Int) (y7 : Int) {r : V} (h : T46l1 (orcE C) 0 0 0 0 y1 y2 y3 y4 y5 y6 y7 = some r) : loopE C 46 0 [true, true, false,
 true] [] [(0, V.sl y1 y2), (3, V.int .i64 y3), (9, V.sl y4 y5), (10, V.int .i64 y6), (11, V.int .i64 y7)] [] = some r := ofL (j := 0) (F := fun s => T46l1 (orc C s.k) s.k s.m 0 0 y1 y2 y3 y4 y5 y6 y7)
 (fs0 fun k m => e46l1 k m 0 0 y1 y2 y3 y4 y5 y6 y7) (by
  unfold T46l1
  exact
    cF (cM ((cM ((cL (fun _ _ => cF (cC) (cD0 gM ))))))) (cM ((cD0 gK )))) h

noncomputable def T71 (O : Orc) (k m q0 q1 : Nat) (y1 : Nat) (y2 : List V) : Option V := O.L 0 71 0 [true, true, false] [] k [(0, V.sl y1 y2), (4, V.ref 0), (5, V.int .i64 0)] [Ob.row 25 0 [] false]
theorem e71 (k m q0 q1 : Nat) (y1 : Nat) (y2 : List V) : runV C (k + 1) 71 [V.sl y1 y2] = T71 (orc C k) k m q0 q1 y1 y2 := by kernel_rfl
theorem E71 (y1 : Nat) (y2 : List V) {r : V} (h : T71 (orcE C) 0 0 0 0 y1 y2 = some r) : runE C 71 [V.sl y1 y2] = some r := ofR (F := fun s => T71 (orc C s.k) s.k s.m 0 0 y1 y2) (fun k => e71 k k 0 0
 y1 y2) (by
  unfold T71
  exact
    cD0 gK ) h

noncomputable def T60 (O : Orc) (k m q0 q1 : Nat) (y1 : Nat) (y2 : List V) : Option V := bif (↑y1 : Int) != 8 then bif (↑y1 : Int) != 15 then some (V.tup [V.int .i64 0, V.int .i64 0, V.int .i64 0,
 V.bool false]) else must (inB 0 y1) (PI.asInt .u8 y2[0]? fun x1 => must (true && decide (8 ≤ (↑y1 : Int))) (must (true && decide (8 ≤ (↑y1 : Int))) (need (O.R 0 79 [V.sl 7 (List.take 7 (List.drop 1
 y2))]) fun x2 => asTup (some x2) fun x3 => PI.asInt .i64 x3[0]? fun x4 => PI.asInt .i64 x3[1]? fun x5 => need (O.R 0 79 [V.sl (y1 - 8) (List.take ((y1 - 8) * 1) (List.drop 8 y2))]) fun x6 => asTup
 (some x6) fun x7 => PI.asInt .i64 x7[0]? fun x8 => PI.asInt .i64 x7[1]? fun x9 => need (O.R 0 80 [V.int .i64 (IntKind.i64.wrap x1), V.int .i64 x5, V.int .i64 x9]) fun x10 => asTup (some x10) fun x11
 => PI.asInt .i64 x11[0]? fun x12 => asSl x11[1]? fun x13 x14 => bif x12 == 0 then need (O.R 0 81 [V.sl x13 x14, V.sl y1 y2]) fun x15 => asTup (some x15) fun x16 => PI.asBool x16[0]? fun x17 => some
 (V.tup [V.int .i64 (IntKind.i64.wrap x1), V.int .i64 x5, V.int .i64 x9, V.bool x17]) else some (V.tup [V.int .i64 (IntKind.i64.wrap x1), V.int .i64 x5, V.int .i64 x9, V.bool false])))) else must (inB
 0 y1) (PI.asInt .u8 y2[0]? fun x18 => must (true && decide (8 ≤ (↑y1 : Int))) (must (true && decide (8 ≤ (↑y1 : Int))) (need (O.R 0 79 [V.sl 7 (List.take 7 (List.drop 1 y2))]) fun x19 => asTup (some
 x19) fun x20 => PI.asInt .i64 x20[0]? fun x21 => PI.asInt .i64 x20[1]? fun x22 => need (O.R 0 79 [V.sl (y1 - 8) (List.take ((y1 - 8) * 1) (List.drop 8 y2))]) fun x23 => asTup (some x23) fun x24 =>
 PI.asInt .i64 x24[0]? fun x25 => PI.asInt .i64 x24[1]? fun x26 => need (O.R 0 80 [V.int .i64 (IntKind.i64.wrap x18), V.int .i64 x22, V.int .i64 x26]) fun x27 => asTup (some x27) fun x28 => PI.asInt
 .i64 x28[0]? fun x29 => asSl x28[1]? fun x30 x31 => bif x29 == 0 then need (O.R 0 81 [V.sl x30 x31, V.sl y1 y2]) fun x32 => asTup (some x32) fun x33 => PI.asBool x33[0]? fun x34 => some (V.tup [V.int
 .i64 (IntKind.i64.wrap x18), V.int .i64 x22, V.int .i64 x26, V.bool x34]) else some (V.tup [V.int .i64 (IntKind.i64.wrap x18), V.int .i64 x22, V.int .i64 x26, V.bool false]))))
theorem e60 (k m q0 q1 : Nat) (y1 : Nat) (y2 : List V) : runV C (k + 1) 60 [V.sl y1 y2] = T60 (orc C k) k m q0 q1 y1 y2 := by kernel_rfl
theorem E60 (y1 : Nat) (y2 : List V) {r : V} (h : T60 (orcE C) 0 0 0 0 y1 y2 = some r) : runE C 60 [V.sl y1 y2] = some r := ofR (F := fun s => T60 (orc C s.k) s.k s.m 0 0 y1 y2) (fun k => e60 k k 0 0
 y1 y2) (by
  unfold T60
  exact
    cF (cF (cC) (cM ((cI (fun _ => cM ((cM ((cN cR (fun _ => cT (fun _ => cI (fun _ => cI (fun _ => cN cR (fun _ => cT (fun _ => cI (fun _ => cI (fun _ => cN cR (fun _ => cT (fun _ => cI (fun _ => cL (fun
    _ _ => cF (cN cR (fun _ => cT (fun _ => cB (fun _ => cC)))) (cC)))))))))))))))))))))) (cM ((cI (fun _ => cM ((cM ((cN cR (fun _ => cT (fun _ => cI (fun _ => cI (fun _ => cN cR (fun _ => cT (fun _
    => cI (fun _ => cI (fun _ => cN cR (fun _ => cT (fun _ => cI (fun _ => cL (fun _ _ => cF (cN cR (fun _ => cT (fun _ => cB (fun _ => cC)))) (cC)))))))))))))))))))))) h

noncomputable def T61 (O : Orc) (k m q0 q1 : Nat) (y1 : Int) (y2 : Int) (y3 : Nat) (y4 : List V) : Option V := bif y1 != IntKind.i64.wrap (y2 + 1) then must (false || y4.all flatV) (some (V.tup [V.int
 .i64 1, V.int .i64 y2, V.osl y3 y4])) else bif decide (y1 > 1000000) then must (false || y4.all flatV) (some (V.tup [V.int .i64 3, V.int .i64 y2, V.osl y3 y4])) else bif (↑y3 : Int) == 12 then must
 (false || y4.all flatV) (some (V.tup [V.int .i64 8, V.int .i64 y2, V.osl y3 y4])) else must (true && (y3 + 1).ble 140737488355328 && ((y3 + 1) * 24).ble 140737488355328) (must (false || (y4 ++ [V.int
 .i64 y1, V.int .i64 0, V.int .i64 0]).all flatV) (some (V.tup [V.int .i64 0, V.int .i64 y1, V.osl (y3 + 1) (y4 ++ [V.int .i64 y1, V.int .i64 0, V.int .i64 0])])))
theorem e61 (k m q0 q1 : Nat) (y1 : Int) (y2 : Int) (y3 : Nat) (y4 : List V) : runW C (k + 1) 61 [] [V.ptr 0 0, V.int .i64 y1] [Ob.box 29 [V.int .i64 y2, V.ref 1] false, Ob.row 52 y3 y4 false] = T61
 (orc C k) k m q0 q1 y1 y2 y3 y4 := by kernel_rfl
theorem E61 (y1 : Int) (y2 : Int) (y3 : Nat) (y4 : List V) {r : V} (h : T61 (orcE C) 0 0 0 0 y1 y2 y3 y4 = some r) : runWE C 61 [] [V.ptr 0 0, V.int .i64 y1] [Ob.box 29 [V.int .i64 y2, V.ref 1] false,
 Ob.row 52 y3 y4 false] = some r := ofW (F := fun s => T61 (orc C s.k) s.k s.m 0 0 y1 y2 y3 y4) (fun k => e61 k k 0 0 y1 y2 y3 y4) (by
  unfold T61
  exact
    cF (cM ((cC))) (cF (cM ((cC))) (cF (cM ((cC))) (cM ((cM ((cC)))))))) h

noncomputable def T62 (O : Orc) (k m q0 q1 : Nat) (y1 : Int) (y2 : Int) (y3 : Int) (y4 : Nat) (y5 : List V) : Option V := need (O.R 0 82 [V.agg [V.int .i64 y3, V.sl y4 y5], V.int .i64 y1]) fun x1 =>
 asTup (some x1) fun x2 => PI.asInt .i64 x2[0]? fun x3 => need (O.R 0 47 [V.int .i64 y2, V.int .i64 0, V.int .i64 1099511627776]) fun x4 => asTup (some x4) fun x5 => PI.asBool x5[0]? fun x6 => bif !x6
 then must (false || y5.all flatV) (some (V.tup [V.int .i64 3, V.int .i64 y3, V.osl y4 y5])) else bif decide (x3 < 0) then must (false || y5.all flatV) (some (V.tup [V.int .i64 4, V.int .i64 y3, V.osl
 y4 y5])) else must (inB x3 y4) (PI.asInt .i64 y5[x3.toNat * 3 + 1]? fun x7 => must ([V.int .i64 (if 8 < IntKind.i64.wrap (x7 + 1) then 8 else IntKind.i64.wrap (x7 + 1))].length.beq 1 && (x3.toNat * 3
 + 1 + [V.int .i64 (if 8 < IntKind.i64.wrap (x7 + 1) then 8 else IntKind.i64.wrap (x7 + 1))].length).ble y5.length) (PI.asInt .i64 (splice y5 (x3.toNat * 3 + 1) [V.int .i64 (if 8 < IntKind.i64.wrap (x7
 + 1) then 8 else IntKind.i64.wrap (x7 + 1))])[x3.toNat * 3 + 1]? fun x8 => must (decide (0 ≤ x8)) (must ([V.int .i64 (IntKind.i64.wrap (y2 + IntKind.i64.wrap (1 * 2 ^ min x8.toNat 64)))].length.beq 1
 && (x3.toNat * 3 + 2 + [V.int .i64 (IntKind.i64.wrap (y2 + IntKind.i64.wrap (1 * 2 ^ min x8.toNat 64)))].length).ble (splice y5 (x3.toNat * 3 + 1) [V.int .i64 (if 8 < IntKind.i64.wrap (x7 + 1) then 8
 else IntKind.i64.wrap (x7 + 1))]).length) (must (false || (splice (splice y5 (x3.toNat * 3 + 1) [V.int .i64 (if 8 < IntKind.i64.wrap (x7 + 1) then 8 else IntKind.i64.wrap (x7 + 1))]) (x3.toNat * 3 +
 2) [V.int .i64 (IntKind.i64.wrap (y2 + IntKind.i64.wrap (1 * 2 ^ min x8.toNat 64)))]).all flatV) (some (V.tup [V.int .i64 0, V.int .i64 y3, V.osl y4 (splice (splice y5 (x3.toNat * 3 + 1) [V.int .i64
 (if 8 < IntKind.i64.wrap (x7 + 1) then 8 else IntKind.i64.wrap (x7 + 1))]) (x3.toNat * 3 + 2) [V.int .i64 (IntKind.i64.wrap (y2 + IntKind.i64.wrap (1 * 2 ^ min x8.toNat 64)))])]))))))
theorem e62 (k m q0 q1 : Nat) (y1 : Int) (y2 : Int) (y3 : Int) (y4 : Nat) (y5 : List V) : runW C (k + 1) 62 [] [V.ptr 0 0, V.int .i64 y1, V.int .i64 y2] [Ob.box 29 [V.int .i64 y3, V.ref 1] false,
 Ob.row 52 y4 y5 false] = T62 (orc C k) k m q0 q1 y1 y2 y3 y4 y5 := by kernel_rfl
theorem E62 (y1 : Int) (y2 : Int) (y3 : Int) (y4 : Nat) (y5 : List V) {r : V} (h : T62 (orcE C) 0 0 0 0 y1 y2 y3 y4 y5 = some r) : runWE C 62 [] [V.ptr 0 0, V.int .i64 y1, V.int .i64 y2] [Ob.box 29
 [V.int .i64 y3, V.ref 1] false, Ob.row 52 y4 y5 false] = some r := ofW (F := fun s => T62 (orc C s.k) s.k s.m 0 0 y1 y2 y3 y4 y5) (fun k => e62 k k 0 0 y1 y2 y3 y4 y5) (by
  unfold T62
  exact
    cN cR (fun _ => cT (fun _ => cI (fun _ => cN cR (fun _ => cT (fun _ => cB (fun _ => cF (cM ((cC))) (cF (cM ((cC))) (cM ((cI (fun _ => cM ((cI (fun _ => cM ((cM ((cM ((cC))))))))))))))))))))) h

noncomputable def T63 (O : Orc) (k m q0 q1 : Nat) (y1 : Int) (y2 : Int) (y3 : Nat) (y4 : List V) : Option V := need (O.R 0 82 [V.agg [V.int .i64 y2, V.sl y3 y4], V.int .i64 y1]) fun x1 => asTup (some
 x1) fun x2 => PI.asInt .i64 x2[0]? fun x3 => bif decide (x3 < 0) then must (false || y4.all flatV) (some (V.tup [V.int .i64 4, V.int .i64 y2, V.osl y3 y4])) else must (decide (0 ≤ x3) && decide (x3 ≤
 IntKind.i64.wrap (x3 + 1)) && decide (IntKind.i64.wrap (x3 + 1) ≤ (↑y3 : Int)) && true) (must (false || (List.take (x3.toNat * 3) y4 ++ List.drop ((IntKind.i64.wrap (x3 + 1)).toNat * 3) y4).all flatV)
 (some (V.tup [V.int .i64 0, V.int .i64 y2, V.osl (y3 - ((IntKind.i64.wrap (x3 + 1)).toNat - x3.toNat)) (List.take (x3.toNat * 3) y4 ++ List.drop ((IntKind.i64.wrap (x3 + 1)).toNat * 3) y4)])))
theorem e63 (k m q0 q1 : Nat) (y1 : Int) (y2 : Int) (y3 : Nat) (y4 : List V) : runW C (k + 1) 63 [] [V.ptr 0 0, V.int .i64 y1] [Ob.box 29 [V.int .i64 y2, V.ref 1] false, Ob.row 52 y3 y4 false] = T63
 (orc C k) k m q0 q1 y1 y2 y3 y4 := by kernel_rfl
theorem E63 (y1 : Int) (y2 : Int) (y3 : Nat) (y4 : List V) {r : V} (h : T63 (orcE C) 0 0 0 0 y1 y2 y3 y4 = some r) : runWE C 63 [] [V.ptr 0 0, V.int .i64 y1] [Ob.box 29 [V.int .i64 y2, V.ref 1] false,
 Ob.row 52 y3 y4 false] = some r := ofW (F := fun s => T63 (orc C s.k) s.k s.m 0 0 y1 y2 y3 y4) (fun k => e63 k k 0 0 y1 y2 y3 y4) (by
  unfold T63
  exact
    cN cR (fun _ => cT (fun _ => cI (fun _ => cF (cM ((cC))) (cM ((cM ((cC))))))))) h

noncomputable def T92 (O : Orc) (k m q0 q1 : Nat) (y1 : Int) : Option V := O.L 0 92 0 [true, true, false, true] [] k [(0, V.int .i64 y1), (3, V.ref 0), (4, V.int .i64 6)] [Ob.row 5 0 [] false]
theorem e92 (k m q0 q1 : Nat) (y1 : Int) : runV C (k + 1) 92 [V.int .i64 y1] = T92 (orc C k) k m q0 q1 y1 := by kernel_rfl
theorem E92 (y1 : Int) {r : V} (h : T92 (orcE C) 0 0 0 0 y1 = some r) : runE C 92 [V.int .i64 y1] = some r := ofR (F := fun s => T92 (orc C s.k) s.k s.m 0 0 y1) (fun k => e92 k k 0 0 y1) (by
  unfold T92
  exact
    cD0 gK ) h

noncomputable def T75l1 (O : Orc) (k m q0 q1 : Nat) (y1 : Nat) (y2 : List V) (y3 : Nat) (y4 : List V) (y5 : Int) : Option V := bif decide (y5 < (↑y1 : Int)) then bif decide (y5 < (↑y3 : Int)) then must
 (inB y5 y1) (PI.asInt .u8 y2[y5.toNat * 1]? fun x1 => must (inB y5 y3) (PI.asInt .u8 y4[y5.toNat * 1]? fun x2 => bif decide (x1 < x2) then some (V.tup [V.int .i64 (-1)]) else must (inB y5 y1)
 (PI.asInt .u8 y2[y5.toNat * 1]? fun x3 => must (inB y5 y3) (PI.asInt .u8 y4[y5.toNat * 1]? fun x4 => bif decide (x3 > x4) then some (V.tup [V.int .i64 1]) else O.L 0 75 0 [true, false, true] [] m [(0,
 V.sl y1 y2), (1, V.sl y3 y4), (5, V.int .i64 (IntKind.i64.wrap (y5 + 1)))] [])))) else bif decide ((↑y1 : Int) < (↑y3 : Int)) then some (V.tup [V.int .i64 (-1)]) else bif decide ((↑y1 : Int) > (↑y3 :
 Int)) then some (V.tup [V.int .i64 1]) else some (V.tup [V.int .i64 0]) else bif decide ((↑y1 : Int) < (↑y3 : Int)) then some (V.tup [V.int .i64 (-1)]) else bif decide ((↑y1 : Int) > (↑y3 : Int)) then
 some (V.tup [V.int .i64 1]) else some (V.tup [V.int .i64 0])
theorem e75l1 (k m q0 q1 : Nat) (y1 : Nat) (y2 : List V) (y3 : Nat) (y4 : List V) (y5 : Int) : runL C k 75 0 [true, false, true] [] (m + 1) [(0, V.sl y1 y2), (1, V.sl y3 y4), (5, V.int .i64 y5)] [] =
 T75l1 (orc C k) k m q0 q1 y1 y2 y3 y4 y5 := by kernel_rfl
theorem E75l1 (y1 : Nat) (y2 : List V) (y3 : Nat) (y4 : List V) (y5 : Int) {r : V} (h : T75l1 (orcE C) 0 0 0 0 y1 y2 y3 y4 y5 = some r) : loopE C 75 0 [true, false, true] [] [(0, V.sl y1 y2), (1, V.sl
 y3 y4), (5, V.int .i64 y5)] [] = some r := ofL (j := 0) (F := fun s => T75l1 (orc C s.k) s.k s.m 0 0 y1 y2 y3 y4 y5) (fs0 fun k m => e75l1 k m 0 0 y1 y2 y3 y4 y5) (by
  unfold T75l1
  exact
    cF (cF (cM ((cI (fun _ => cM ((cI (fun _ => cF (cC) (cM ((cI (fun _ => cM ((cI (fun _ => cF (cC) (cD0 gM ))))))))))))))) (cF (cC) (cF (cC) (cC)))) (cF (cC) (cF (cC) (cC)))) h

noncomputable def T76l1 (O : Orc) (k m q0 q1 : Nat) (y1 : Int) (y2 : Nat) (y3 : List V) (y4 : Int) (y5 : Int) : Option V := bif decide (y5 < (↑y2 : Int)) then must (inB y5 y2) (PI.asInt .i64
 y3[y5.toNat * 3 + 0]? fun x1 => bif x1 == y4 then some (V.tup [V.int .i64 y5]) else O.L 0 76 0 [true, false, true] [] m [(0, V.pin [V.int .i64 y1, V.sl y2 y3] 0), (1, V.int .i64 y4), (5, V.int .i64
 (IntKind.i64.wrap (y5 + 1)))] []) else some (V.tup [V.int .i64 (-1)])
theorem e76l1 (k m q0 q1 : Nat) (y1 : Int) (y2 : Nat) (y3 : List V) (y4 : Int) (y5 : Int) : runL C k 76 0 [true, false, true] [] (m + 1) [(0, V.pin [V.int .i64 y1, V.sl y2 y3] 0), (1, V.int .i64 y4),
 (5, V.int .i64 y5)] [] = T76l1 (orc C k) k m q0 q1 y1 y2 y3 y4 y5 := by kernel_rfl
theorem E76l1 (y1 : Int) (y2 : Nat) (y3 : List V) (y4 : Int) (y5 : Int) {r : V} (h : T76l1 (orcE C) 0 0 0 0 y1 y2 y3 y4 y5 = some r) : loopE C 76 0 [true, false, true] [] [(0, V.pin [V.int .i64 y1,
 V.sl y2 y3] 0), (1, V.int .i64 y4), (5, V.int .i64 y5)] [] = some r := ofL (j := 0) (F := fun s => T76l1 (orc C s.k) s.k s.m 0 0 y1 y2 y3 y4 y5) (fs0 fun k m => e76l1 k m 0 0 y1 y2 y3 y4 y5) (by
  unfold T76l1
  exact
    cF (cM ((cI (fun _ => cF (cC) (cD0 gM ))))) (cC)) h

noncomputable def T73 (O : Orc) (k m q0 q1 : Nat) (y1 : Nat) (y2 : List V) : Option V := need (O.R 0 91 [V.str { data := #[(114 : UInt8), (101 : UInt8), (99 : UInt8), (111 : UInt8), (114 : UInt8), (100
 : UInt8)] }, V.sl y1 y2]) fun x1 => asTup (some x1) fun x2 => asSl x2[0]? fun x3 x4 => must (true && decide (4 ≤ (↑x3 : Int))) (must (decide (y2.length = y1 * 1)) (must (true && (1 + y1).ble
 140737488355328 && ((1 + y1) * 1).ble 140737488355328) (must (decide ((List.take 4 (List.drop 0 x4)).length = 4)) (must (true && (1 + y1 + 4).ble 140737488355328 && ((1 + y1 + 4) * 1).ble
 140737488355328) (some (V.tup [V.sl (1 + y1 + 4) (V.int .u8 (IntKind.u8.wrap (↑y1 : Int)) :: y2 ++ List.take 4 (List.drop 0 x4))]))))))
theorem e73 (k m q0 q1 : Nat) (y1 : Nat) (y2 : List V) : runV C (k + 1) 73 [V.sl y1 y2] = T73 (orc C k) k m q0 q1 y1 y2 := by kernel_rfl
theorem E73 (y1 : Nat) (y2 : List V) {r : V} (h : T73 (orcE C) 0 0 0 0 y1 y2 = some r) : runE C 73 [V.sl y1 y2] = some r := ofR (F := fun s => T73 (orc C s.k) s.k s.m 0 0 y1 y2) (fun k => e73 k k 0 0
 y1 y2) (by
  unfold T73
  exact
    cN cR (fun _ => cT (fun _ => cL (fun _ _ => cM ((cM ((cM ((cM ((cM ((cC)))))))))))))) h

noncomputable def T46l2 (O : Orc) (k m q0 q1 : Nat) (y1 : Nat) (y2 : List V) (y3 : Int) (y4 : Int) (y5 : Nat) (y6 : List V) : Option V := bif decide (y4 < y3) then must (inB y4 y1) (must (decide
 (y4.toNat * 1 < y2.length)) (asSl y2[y4.toNat * 1]? fun x1 x2 => must (decide (x2.length = x1 * 1)) (must (true && (y5 + x1).ble 140737488355328 && ((y5 + x1) * 1).ble 140737488355328) (O.L 0 46 2
 [true, true, true, true, false, true] [] m [(6, V.ref 0), (25, V.sl y1 y2), (26, V.int .i64 y3), (27, V.int .i64 (IntKind.i64.wrap (y4 + 1)))] [Ob.row 5 (y5 + x1) (y6 ++ x2) false])))) else must
 (false || y6.all flatV) (some (V.tup [V.osl y5 y6]))
theorem e46l2 (k m q0 q1 : Nat) (y1 : Nat) (y2 : List V) (y3 : Int) (y4 : Int) (y5 : Nat) (y6 : List V) : runL C k 46 2 [true, true, true, true, false, true] [] (m + 1) [(6, V.ref 0), (25, V.sl y1 y2),
 (26, V.int .i64 y3), (27, V.int .i64 y4)] [Ob.row 5 y5 y6 false] = T46l2 (orc C k) k m q0 q1 y1 y2 y3 y4 y5 y6 := by kernel_rfl
theorem E46l2 (y1 : Nat) (y2 : List V) (y3 : Int) (y4 : Int) (y5 : Nat) (y6 : List V) {r : V} (h : T46l2 (orcE C) 0 0 0 0 y1 y2 y3 y4 y5 y6 = some r) : loopE C 46 2 [true, true, true, true, false,
 true] [] [(6, V.ref 0), (25, V.sl y1 y2), (26, V.int .i64 y3), (27, V.int .i64 y4)] [Ob.row 5 y5 y6 false] = some r := ofL (j := 0) (F := fun s => T46l2 (orc C s.k) s.k s.m 0 0 y1 y2 y3 y4 y5 y6) (fs0
 fun k m => e46l2 k m 0 0 y1 y2 y3 y4 y5 y6) (by
  unfold T46l2
  exact
    cF (cM ((cM ((cL (fun _ _ => cM ((cM ((cD0 gM )))))))))) (cM ((cC)))) h

noncomputable def T71l1 (O : Orc) (k m q0 q1 : Nat) (y1 : Nat) (y2 : List V) (y3 : Int) (y4 : Nat) (y5 : List V) : Option V := bif decide (y3 < (↑y1 : Int)) then must (inB y3 y1) (PI.asInt .u8
 y2[y3.toNat * 1]? fun x1 => need (O.R 0 47 [V.int .i64 (IntKind.i64.wrap x1), V.int .i64 1, V.int .i64 60]) fun x2 => asTup (some x2) fun x3 => PI.asBool x3[0]? fun x4 => bif !x4 then some (V.tup
 [V.sl y4 y5, V.int .i64 y3]) else bif decide (IntKind.i64.wrap (IntKind.i64.wrap (IntKind.i64.wrap (y3 + 1) + IntKind.i64.wrap x1) + 4) > (↑y1 : Int)) then some (V.tup [V.sl y4 y5, V.int .i64 y3])
 else must (decide (0 ≤ IntKind.i64.wrap (IntKind.i64.wrap (y3 + 1) + IntKind.i64.wrap x1)) && decide (IntKind.i64.wrap (IntKind.i64.wrap (y3 + 1) + IntKind.i64.wrap x1) ≤ (↑y1 : Int))) (must (decide
 (0 ≤ IntKind.i64.wrap (y3 + 1)) && decide (IntKind.i64.wrap (y3 + 1) ≤ (↑(IntKind.i64.wrap (IntKind.i64.wrap (y3 + 1) + IntKind.i64.wrap x1)).toNat : Int))) (must (decide (0 ≤ IntKind.i64.wrap
 (IntKind.i64.wrap (IntKind.i64.wrap (y3 + 1) + IntKind.i64.wrap x1) + 4)) && decide (IntKind.i64.wrap (IntKind.i64.wrap (IntKind.i64.wrap (y3 + 1) + IntKind.i64.wrap x1) + 4) ≤ (↑y1 : Int))) (must
 (decide (0 ≤ y3) && decide (y3 ≤ (↑(IntKind.i64.wrap (IntKind.i64.wrap (IntKind.i64.wrap (y3 + 1) + IntKind.i64.wrap x1) + 4)).toNat : Int))) (need (O.R 0 89 [V.sl ((IntKind.i64.wrap (IntKind.i64.wrap
 (y3 + 1) + IntKind.i64.wrap x1)).toNat - (IntKind.i64.wrap (y3 + 1)).toNat) (List.take (((IntKind.i64.wrap (IntKind.i64.wrap (y3 + 1) + IntKind.i64.wrap x1)).toNat - (IntKind.i64.wrap (y3 + 1)).toNat)
 * 1) (List.drop ((IntKind.i64.wrap (y3 + 1)).toNat * 1) y2))]) fun x5 => asTup (some x5) fun x6 => asSl x6[0]? fun x7 x8 => need (O.R 0 88 [V.sl ((IntKind.i64.wrap (IntKind.i64.wrap (IntKind.i64.wrap
 (y3 + 1) + IntKind.i64.wrap x1) + 4)).toNat - y3.toNat) (List.take (((IntKind.i64.wrap (IntKind.i64.wrap (IntKind.i64.wrap (y3 + 1) + IntKind.i64.wrap x1) + 4)).toNat - y3.toNat) * 1) (List.drop
 (y3.toNat * 1) y2)), V.sl x7 x8]) fun x9 => asTup (some x9) fun x10 => PI.asBool x10[0]? fun x11 => bif !x11 then some (V.tup [V.sl y4 y5, V.int .i64 y3]) else need (O.R 0 90 [V.sl ((IntKind.i64.wrap
 (IntKind.i64.wrap (y3 + 1) + IntKind.i64.wrap x1)).toNat - (IntKind.i64.wrap (y3 + 1)).toNat) (List.take (((IntKind.i64.wrap (IntKind.i64.wrap (y3 + 1) + IntKind.i64.wrap x1)).toNat -
 (IntKind.i64.wrap (y3 + 1)).toNat) * 1) (List.drop ((IntKind.i64.wrap (y3 + 1)).toNat * 1) y2))]) fun x12 => asTup (some x12) fun x13 => asOsl x13[0]? fun x14 x15 => must (true && (y4 + 1).ble
 140737488355328 && ((y4 + 1) * 24).ble 140737488355328) (O.L 0 71 0 [true, true, false] [] m [(0, V.sl y1 y2), (4, V.ref 0), (5, V.int .i64 (IntKind.i64.wrap (IntKind.i64.wrap (IntKind.i64.wrap (y3 +
 1) + IntKind.i64.wrap x1) + 4)))] [Ob.row 25 (y4 + 1) (y5 ++ [V.sl x14 x15]) false])))))) else some (V.tup [V.sl y4 y5, V.int .i64 y3])
theorem e71l1 (k m q0 q1 : Nat) (y1 : Nat) (y2 : List V) (y3 : Int) (y4 : Nat) (y5 : List V) : runL C k 71 0 [true, true, false] [] (m + 1) [(0, V.sl y1 y2), (4, V.ref 0), (5, V.int .i64 y3)] [Ob.row
 25 y4 y5 false] = T71l1 (orc C k) k m q0 q1 y1 y2 y3 y4 y5 := by kernel_rfl
theorem E71l1 (y1 : Nat) (y2 : List V) (y3 : Int) (y4 : Nat) (y5 : List V) {r : V} (h : T71l1 (orcE C) 0 0 0 0 y1 y2 y3 y4 y5 = some r) : loopE C 71 0 [true, true, false] [] [(0, V.sl y1 y2), (4, V.ref
 0), (5, V.int .i64 y3)] [Ob.row 25 y4 y5 false] = some r := ofL (j := 0) (F := fun s => T71l1 (orc C s.k) s.k s.m 0 0 y1 y2 y3 y4 y5) (fs0 fun k m => e71l1 k m 0 0 y1 y2 y3 y4 y5) (by
  unfold T71l1
  exact
    cF (cM ((cI (fun _ => cN cR (fun _ => cT (fun _ => cB (fun _ => cF (cC) (cF (cC) (cM ((cM ((cM ((cM ((cN cR (fun _ => cT (fun _ => cL (fun _ _ => cN cR (fun _ => cT (fun _ => cB (fun _ => cF (cC) (cN
    cR (fun _ => cT (fun _ => cO (fun _ _ => cM ((cD0 gM ))))))))))))))))))))))))))))) (cC)) h

noncomputable def T79 (O : Orc) (k m q0 q1 : Nat) (y1 : Nat) (y2 : List V) : Option V := bif (↑y1 : Int) != 7 then some (V.tup [V.int .i64 1, V.int .i64 0]) else O.L 0 79 0 [true, true, true, false,
 true] [] k [(2, V.ptr 0 0), (3, V.int .i64 0), (10, V.sl y1 y2), (11, V.int .i64 (↑y1 : Int)), (12, V.int .i64 0)] [Ob.box 112 [V.int .i64 0, V.int .i64 0] false]
theorem e79 (k m q0 q1 : Nat) (y1 : Nat) (y2 : List V) : runV C (k + 1) 79 [V.sl y1 y2] = T79 (orc C k) k m q0 q1 y1 y2 := by kernel_rfl
theorem E79 (y1 : Nat) (y2 : List V) {r : V} (h : T79 (orcE C) 0 0 0 0 y1 y2 = some r) : runE C 79 [V.sl y1 y2] = some r := ofR (F := fun s => T79 (orc C s.k) s.k s.m 0 0 y1 y2) (fun k => e79 k k 0 0
 y1 y2) (by
  unfold T79
  exact
    cF (cC) (cD0 gK )) h

noncomputable def T80 (O : Orc) (k m q0 q1 : Nat) (y1 : Int) (y2 : Int) (y3 : Int) : Option V := need (O.R 0 47 [V.int .i64 y1, V.int .i64 1, V.int .i64 3]) fun x1 => asTup (some x1) fun x2 =>
 PI.asBool x2[0]? fun x3 => bif !x3 then some (V.tup [V.int .i64 1, V.sl 0 []]) else need (O.R 0 93 [V.int .i64 y2]) fun x4 => asTup (some x4) fun x5 => PI.asBool x5[0]? fun x6 => bif !x6 then some
 (V.tup [V.int .i64 3, V.sl 0 []]) else need (O.R 0 47 [V.int .i64 y3, V.int .i64 0, V.int .i64 1099511627776]) fun x7 => asTup (some x7) fun x8 => PI.asBool x8[0]? fun x9 => bif !x9 then some (V.tup
 [V.int .i64 3, V.sl 0 []]) else bif y3 != 0 then bif y1 != 2 then some (V.tup [V.int .i64 1, V.sl 0 []]) else need (O.R 0 94 [V.int .i64 y2]) fun x10 => asTup (some x10) fun x11 => asSl x11[0]? fun
 x12 x13 => must (decide (x13.length = x12 * 1)) (must (true && (1 + x12).ble 140737488355328 && ((1 + x12) * 1).ble 140737488355328) (bif y1 == 2 then need (O.R 0 94 [V.int .i64 y3]) fun x14 => asTup
 (some x14) fun x15 => asSl x15[0]? fun x16 x17 => must (decide (x17.length = x16 * 1)) (must (true && (1 + x12 + x16).ble 140737488355328 && ((1 + x12 + x16) * 1).ble 140737488355328) (some (V.tup
 [V.int .i64 0, V.sl (1 + x12 + x16) (V.int .u8 (IntKind.u8.wrap y1) :: x13 ++ x17)]))) else some (V.tup [V.int .i64 0, V.sl (1 + x12) (V.int .u8 (IntKind.u8.wrap y1) :: x13)]))) else need (O.R 0 94
 [V.int .i64 y2]) fun x18 => asTup (some x18) fun x19 => asSl x19[0]? fun x20 x21 => must (decide (x21.length = x20 * 1)) (must (true && (1 + x20).ble 140737488355328 && ((1 + x20) * 1).ble
 140737488355328) (bif y1 == 2 then need (O.R 0 94 [V.int .i64 y3]) fun x22 => asTup (some x22) fun x23 => asSl x23[0]? fun x24 x25 => must (decide (x25.length = x24 * 1)) (must (true && (1 + x20 +
 x24).ble 140737488355328 && ((1 + x20 + x24) * 1).ble 140737488355328) (some (V.tup [V.int .i64 0, V.sl (1 + x20 + x24) (V.int .u8 (IntKind.u8.wrap y1) :: x21 ++ x25)]))) else some (V.tup [V.int .i64
 0, V.sl (1 + x20) (V.int .u8 (IntKind.u8.wrap y1) :: x21)])))
theorem e80 (k m q0 q1 : Nat) (y1 : Int) (y2 : Int) (y3 : Int) : runV C (k + 1) 80 [V.int .i64 y1, V.int .i64 y2, V.int .i64 y3] = T80 (orc C k) k m q0 q1 y1 y2 y3 := by kernel_rfl
theorem E80 (y1 : Int) (y2 : Int) (y3 : Int) {r : V} (h : T80 (orcE C) 0 0 0 0 y1 y2 y3 = some r) : runE C 80 [V.int .i64 y1, V.int .i64 y2, V.int .i64 y3] = some r := ofR (F := fun s => T80 (orc C
 s.k) s.k s.m 0 0 y1 y2 y3) (fun k => e80 k k 0 0 y1 y2 y3) (by
  unfold T80
  exact
    cN cR (fun _ => cT (fun _ => cB (fun _ => cF (cC) (cN cR (fun _ => cT (fun _ => cB (fun _ => cF (cC) (cN cR (fun _ => cT (fun _ => cB (fun _ => cF (cC) (cF (cF (cC) (cN cR (fun _ => cT (fun _ => cL
    (fun _ _ => cM ((cM ((cF (cN cR (fun _ => cT (fun _ => cL (fun _ _ => cM ((cM ((cC)))))))) (cC)))))))))) (cN cR (fun _ => cT (fun _ => cL (fun _ _ => cM ((cM ((cF (cN cR (fun _ => cT (fun _ => cL
    (fun _ _ => cM ((cM ((cC)))))))) (cC)))))))))))))))))))))) h

noncomputable def T81 (O : Orc) (k m q0 q1 : Nat) (y1 : Nat) (y2 : List V) (y3 : Nat) (y4 : List V) : Option V := need (O.R 0 88 [V.sl y1 y2, V.sl y3 y4]) fun x1 => asTup (some x1) fun x2 => PI.asBool
 x2[0]? fun x3 => some (V.tup [V.bool x3])
theorem e81 (k m q0 q1 : Nat) (y1 : Nat) (y2 : List V) (y3 : Nat) (y4 : List V) : runV C (k + 1) 81 [V.sl y1 y2, V.sl y3 y4] = T81 (orc C k) k m q0 q1 y1 y2 y3 y4 := by kernel_rfl
theorem E81 (y1 : Nat) (y2 : List V) (y3 : Nat) (y4 : List V) {r : V} (h : T81 (orcE C) 0 0 0 0 y1 y2 y3 y4 = some r) : runE C 81 [V.sl y1 y2, V.sl y3 y4] = some r := ofR (F := fun s => T81 (orc C s.k)
 s.k s.m 0 0 y1 y2 y3 y4) (fun k => e81 k k 0 0 y1 y2 y3 y4) (by
  unfold T81
  exact
    cN cR (fun _ => cT (fun _ => cB (fun _ => cC)))) h

noncomputable def T82 (O : Orc) (k m q0 q1 : Nat) (y1 : Int) (y2 : Nat) (y3 : List V) (y4 : Int) : Option V := need (O.R 0 95 [V.sl y2 y3, V.fn 96 [V.pin [V.int .i64 y4] 0]]) fun x1 => asTup (some x1)
 fun x2 => PI.asInt .i64 x2[0]? fun x3 => some (V.tup [V.int .i64 x3])
theorem e82 (k m q0 q1 : Nat) (y1 : Int) (y2 : Nat) (y3 : List V) (y4 : Int) : runV C (k + 1) 82 [V.agg [V.int .i64 y1, V.sl y2 y3], V.int .i64 y4] = T82 (orc C k) k m q0 q1 y1 y2 y3 y4 := by
 kernel_rfl
theorem E82 (y1 : Int) (y2 : Nat) (y3 : List V) (y4 : Int) {r : V} (h : T82 (orcE C) 0 0 0 0 y1 y2 y3 y4 = some r) : runE C 82 [V.agg [V.int .i64 y1, V.sl y2 y3], V.int .i64 y4] = some r := ofR (F :=
 fun s => T82 (orc C s.k) s.k s.m 0 0 y1 y2 y3 y4) (fun k => e82 k k 0 0 y1 y2 y3 y4) (by
  unfold T82
  exact
    cN cR (fun _ => cT (fun _ => cI (fun _ => cC)))) h

noncomputable def T92l1 (O : Orc) (k m q0 q1 : Nat) (y1 : Int) (y2 : Int) (y3 : Nat) (y4 : List V) : Option V := bif decide (y2 ≥ 0) then must (decide (0 ≤ IntKind.u64.wrap (IntKind.i64.wrap (8 *
 y2)))) (must (true && (y3 + 1).ble 140737488355328 && ((y3 + 1) * 1).ble 140737488355328) (O.L 0 92 0 [true, true, false, true] [] m [(0, V.int .i64 y1), (3, V.ref 0), (4, V.int .i64 (IntKind.i64.wrap
 (y2 - 1)))] [Ob.row 5 (y3 + 1) (y4 ++ [V.int .u8 (IntKind.u8.wrap (y1.fdiv (2 ^ min (IntKind.u64.wrap (IntKind.i64.wrap (8 * y2))).toNat 64)))]) false])) else some (V.tup [V.sl y3 y4])
theorem e92l1 (k m q0 q1 : Nat) (y1 : Int) (y2 : Int) (y3 : Nat) (y4 : List V) : runL C k 92 0 [true, true, false, true] [] (m + 1) [(0, V.int .i64 y1), (3, V.ref 0), (4, V.int .i64 y2)] [Ob.row 5 y3
 y4 false] = T92l1 (orc C k) k m q0 q1 y1 y2 y3 y4 := by kernel_rfl
theorem E92l1 (y1 : Int) (y2 : Int) (y3 : Nat) (y4 : List V) {r : V} (h : T92l1 (orcE C) 0 0 0 0 y1 y2 y3 y4 = some r) : loopE C 92 0 [true, true, false, true] [] [(0, V.int .i64 y1), (3, V.ref 0), (4,
 V.int .i64 y2)] [Ob.row 5 y3 y4 false] = some r := ofL (j := 0) (F := fun s => T92l1 (orc C s.k) s.k s.m 0 0 y1 y2 y3 y4) (fs0 fun k m => e92l1 k m 0 0 y1 y2 y3 y4) (by
  unfold T92l1
  exact
    cF (cM ((cM ((cD0 gM ))))) (cC)) h

noncomputable def T91 (O : Orc) (k m q0 q1 : Nat) (y1 : ByteArray) (y2 : Nat) (y3 : List V) : Option V := must (y1.size.ble 140737488355328) (must (decide ((bytesV y1.data.toList).length = y1.size *
 1)) (must (true && (1 + y1.size).ble 140737488355328 && ((1 + y1.size) * 1).ble 140737488355328) (must (decide (y3.length = y2 * 1)) (must (true && (1 + y1.size + y2).ble 140737488355328 && ((1 +
 y1.size + y2) * 1).ble 140737488355328) (need (O.R 0 98 [V.sl (1 + y1.size + y2) (V.int .u8 (IntKind.u8.wrap ((↑y1.size : Int).tmod 256)) :: bytesV y1.data.toList ++ y3)]) fun x1 => asTup (some x1)
 fun x2 => asSl x2[0]? fun x3 x4 => some (V.tup [V.sl x3 x4]))))))
theorem e91 (k m q0 q1 : Nat) (y1 : ByteArray) (y2 : Nat) (y3 : List V) : runV C (k + 1) 91 [V.str y1, V.sl y2 y3] = T91 (orc C k) k m q0 q1 y1 y2 y3 := by kernel_rfl
theorem E91 (y1 : ByteArray) (y2 : Nat) (y3 : List V) {r : V} (h : T91 (orcE C) 0 0 0 0 y1 y2 y3 = some r) : runE C 91 [V.str y1, V.sl y2 y3] = some r := ofR (F := fun s => T91 (orc C s.k) s.k s.m 0 0
 y1 y2 y3) (fun k => e91 k k 0 0 y1 y2 y3) (by
  unfold T91
  exact
    cM ((cM ((cM ((cM ((cM ((cN cR (fun _ => cT (fun _ => cL (fun _ _ => cC)))))))))))))) h

noncomputable def T89 (O : Orc) (k m q0 q1 : Nat) (y1 : Nat) (y2 : List V) : Option V := need (O.R 0 97 [V.str { data := #[(114 : UInt8), (101 : UInt8), (99 : UInt8), (111 : UInt8), (114 : UInt8), (100
 : UInt8)] }, V.sl 1 [V.sl y1 y2]]) fun x1 => asTup (some x1) fun x2 => asSl x2[0]? fun x3 x4 => must (true && decide (4 ≤ (↑x3 : Int))) (need (O.R 0 46 [V.sl 3 [V.sl 1 [V.int .u8 (IntKind.u8.wrap (↑y1
 : Int))], V.sl y1 y2, V.sl 4 (List.take 4 (List.drop 0 x4))]]) fun x5 => asTup (some x5) fun x6 => asOsl x6[0]? fun x7 x8 => some (V.tup [V.sl x7 x8]))
theorem e89 (k m q0 q1 : Nat) (y1 : Nat) (y2 : List V) : runV C (k + 1) 89 [V.sl y1 y2] = T89 (orc C k) k m q0 q1 y1 y2 := by kernel_rfl
theorem E89 (y1 : Nat) (y2 : List V) {r : V} (h : T89 (orcE C) 0 0 0 0 y1 y2 = some r) : runE C 89 [V.sl y1 y2] = some r := ofR (F := fun s => T89 (orc C s.k) s.k s.m 0 0 y1 y2) (fun k => e89 k k 0 0
 y1 y2) (by
  unfold T89
  exact
    cN cR (fun _ => cT (fun _ => cL (fun _ _ => cM ((cN cR (fun _ => cT (fun _ => cO (fun _ _ => cC))))))))) h

noncomputable def T88 (O : Orc) (k m q0 q1 : Nat) (y1 : Nat) (y2 : List V) (y3 : Nat) (y4 : List V) : Option V := must (y2.length.beq y1 && y2.all isU8) (must (y4.length.beq y3 && y4.all isU8) (some
 (V.tup [V.bool (strEq (packB y2) (packB y4))])))
theorem e88 (k m q0 q1 : Nat) (y1 : Nat) (y2 : List V) (y3 : Nat) (y4 : List V) : runV C (k + 1) 88 [V.sl y1 y2, V.sl y3 y4] = T88 (orc C k) k m q0 q1 y1 y2 y3 y4 := by kernel_rfl
theorem E88 (y1 : Nat) (y2 : List V) (y3 : Nat) (y4 : List V) {r : V} (h : T88 (orcE C) 0 0 0 0 y1 y2 y3 y4 = some r) : runE C 88 [V.sl y1 y2, V.sl y3 y4] = some r := ofR (F := fun s => T88 (orc C s.k)
 s.k s.m 0 0 y1 y2 y3 y4) (fun k => e88 k k 0 0 y1 y2 y3 y4) (by
  unfold T88
  exact
    cM ((cM ((cC))))) h

noncomputable def T90 (O : Orc) (k m q0 q1 : Nat) (y1 : Nat) (y2 : List V) : Option V := bif y1.beq (OfNat.ofNat 0) then both (some (V.tup [V.osl 0 []])) (must (decide (y2.length = y1 * 1)) (must (true
 && (0 + y1).ble 140737488355328 && ((0 + y1) * 1).ble 140737488355328) (must (false || y2.all flatV) (some (V.tup [V.osl (0 + y1) y2]))))) else must (decide (y2.length = y1 * 1)) (must (true && (0 +
 y1).ble 140737488355328 && ((0 + y1) * 1).ble 140737488355328) (must (false || y2.all flatV) (some (V.tup [V.osl (0 + y1) y2]))))
theorem e90 (k m q0 q1 : Nat) (y1 : Nat) (y2 : List V) : runV C (k + 1) 90 [V.sl y1 y2] = T90 (orc C k) k m q0 q1 y1 y2 := by kernel_rfl
theorem E90 (y1 : Nat) (y2 : List V) {r : V} (h : T90 (orcE C) 0 0 0 0 y1 y2 = some r) : runE C 90 [V.sl y1 y2] = some r := ofR (F := fun s => T90 (orc C s.k) s.k s.m 0 0 y1 y2) (fun k => e90 k k 0 0
 y1 y2) (by
  unfold T90
  exact
    cF (cW ((cC)) ((cM ((cM ((cM ((cC))))))))) (cM ((cM ((cM ((cC)))))))) h

noncomputable def T79l1 (O : Orc) (k m q0 q1 : Nat) (y1 : Int) (y2 : Nat) (y3 : List V) (y4 : Int) (y5 : Int) (y6 : Int) (y7 : Int) : Option V := bif decide (y5 < y4) then must (inB y5 y2) (PI.asInt
 .u8 y3[y5.toNat * 1]? fun x1 => O.L 0 79 0 [true, true, true, false, true] [] m [(2, V.ptr 0 0), (3, V.int .i64 (PI.bits IntKind.i64 (fun x1 x2 => x1 ||| x2) (IntKind.i64.wrap (y1 * 256))
 (IntKind.i64.wrap x1))), (10, V.sl y2 y3), (11, V.int .i64 y4), (12, V.int .i64 (IntKind.i64.wrap (y5 + 1)))] [Ob.box 112 [V.int .i64 y6, V.int .i64 y7] false]) else some (V.tup [V.int .i64 0, V.int
 .i64 y1])
theorem e79l1 (k m q0 q1 : Nat) (y1 : Int) (y2 : Nat) (y3 : List V) (y4 : Int) (y5 : Int) (y6 : Int) (y7 : Int) : runL C k 79 0 [true, true, true, false, true] [] (m + 1) [(2, V.ptr 0 0), (3, V.int
 .i64 y1), (10, V.sl y2 y3), (11, V.int .i64 y4), (12, V.int .i64 y5)] [Ob.box 112 [V.int .i64 y6, V.int .i64 y7] false] = T79l1 (orc C k) k m q0 q1 y1 y2 y3 y4 y5 y6 y7 := by kernel_rfl
theorem E79l1 (y1 : Int) (y2 : Nat) (y3 : List V) (y4 : Int) (y5 : Int) (y6 : Int) (y7 : Int) {r : V} (h : T79l1 (orcE C) 0 0 0 0 y1 y2 y3 y4 y5 y6 y7 = some r) : loopE C 79 0 [true, true, true, false,
 true] [] [(2, V.ptr 0 0), (3, V.int .i64 y1), (10, V.sl y2 y3), (11, V.int .i64 y4), (12, V.int .i64 y5)] [Ob.box 112 [V.int .i64 y6, V.int .i64 y7] false] = some r := ofL (j := 0) (F := fun s =>
 T79l1 (orc C s.k) s.k s.m 0 0 y1 y2 y3 y4 y5 y6 y7) (fs0 fun k m => e79l1 k m 0 0 y1 y2 y3 y4 y5 y6 y7) (by
  unfold T79l1
  exact
    cF (cM ((cI (fun _ => cD0 gM )))) (cC)) h

noncomputable def T93 (O : Orc) (k m q0 q1 : Nat) (y1 : Int) : Option V := need (O.R 0 47 [V.int .i64 y1, V.int .i64 1, V.int .i64 1000000]) fun x1 => asTup (some x1) fun x2 => PI.asBool x2[0]? fun x3
 => some (V.tup [V.bool x3])
theorem e93 (k m q0 q1 : Nat) (y1 : Int) : runV C (k + 1) 93 [V.int .i64 y1] = T93 (orc C k) k m q0 q1 y1 := by kernel_rfl
theorem E93 (y1 : Int) {r : V} (h : T93 (orcE C) 0 0 0 0 y1 = some r) : runE C 93 [V.int .i64 y1] = some r := ofR (F := fun s => T93 (orc C s.k) s.k s.m 0 0 y1) (fun k => e93 k k 0 0 y1) (by
  unfold T93
  exact
    cN cR (fun _ => cT (fun _ => cB (fun _ => cC)))) h

noncomputable def T94 (O : Orc) (k m q0 q1 : Nat) (y1 : Int) : Option V := O.L 0 94 0 [true, true, false, true] [] k [(0, V.int .i64 y1), (3, V.ref 0), (4, V.int .i64 6)] [Ob.row 5 7 [V.int .u8 0,
 V.int .u8 0, V.int .u8 0, V.int .u8 0, V.int .u8 0, V.int .u8 0, V.int .u8 0] false]
theorem e94 (k m q0 q1 : Nat) (y1 : Int) : runV C (k + 1) 94 [V.int .i64 y1] = T94 (orc C k) k m q0 q1 y1 := by kernel_rfl
theorem E94 (y1 : Int) {r : V} (h : T94 (orcE C) 0 0 0 0 y1 = some r) : runE C 94 [V.int .i64 y1] = some r := ofR (F := fun s => T94 (orc C s.k) s.k s.m 0 0 y1) (fun k => e94 k k 0 0 y1) (by
  unfold T94
  exact
    cD0 gK ) h

noncomputable def T95 (O : Orc) (k m q0 q1 : Nat) (y1 : Nat) (y2 : List V) (y3 : Int) : Option V := O.L 0 95 0 [true, false, true] [] k [(0, V.sl y1 y2), (1, V.fn 96 [V.pin [V.int .i64 y3] 0]), (7,
 V.int .i64 (↑y1 : Int)), (8, V.int .i64 0)] []
theorem e95 (k m q0 q1 : Nat) (y1 : Nat) (y2 : List V) (y3 : Int) : runV C (k + 1) 95 [V.sl y1 y2, V.fn 96 [V.pin [V.int .i64 y3] 0]] = T95 (orc C k) k m q0 q1 y1 y2 y3 := by kernel_rfl
theorem E95 (y1 : Nat) (y2 : List V) (y3 : Int) {r : V} (h : T95 (orcE C) 0 0 0 0 y1 y2 y3 = some r) : runE C 95 [V.sl y1 y2, V.fn 96 [V.pin [V.int .i64 y3] 0]] = some r := ofR (F := fun s => T95 (orc
 C s.k) s.k s.m 0 0 y1 y2 y3) (fun k => e95 k k 0 0 y1 y2 y3) (by
  unfold T95
  exact
    cD0 gK ) h

noncomputable def T98 (O : Orc) (k m q0 q1 : Nat) (y1 : Nat) (y2 : List V) : Option V := need (O.R 0 100 []) fun x1 => PI.asAgg (some x1) fun x2 => must (x2.length.beq 64 && true && (0 + x2.length).ble
 64 && flatB C 128 x2) (need (O.R 0 101 []) fun x3 => asTup (some x3) fun x4 => PI.asInt .i64 x4[0]? fun x5 => PI.asInt .i64 x4[1]? fun x6 => PI.asInt .i64 x4[2]? fun x7 => PI.asInt .i64 x4[3]? fun x8
 => PI.asInt .i64 x4[4]? fun x9 => PI.asInt .i64 x4[5]? fun x10 => PI.asInt .i64 x4[6]? fun x11 => PI.asInt .i64 x4[7]? fun x12 => need (O.R 0 102 [V.sl y1 y2]) fun x13 => asTup (some x13) fun x14 =>
 asSl x14[0]? fun x15 x16 => O.L 0 98 0 [true, true, true, true, false, true] [] k [(3, V.ptr 0 0), (4, V.ptr 1 0), (5, V.sl x15 x16), (6, V.int .i64 0)] [Ob.box 128 (splice [V.int .i64 0, V.int .i64
 0, V.int .i64 0, V.int .i64 0, V.int .i64 0, V.int .i64 0, V.int .i64 0, V.int .i64 0, V.int .i64 0, V.int .i64 0, V.int .i64 0, V.int .i64 0, V.int .i64 0, V.int .i64 0, V.int .i64 0, V.int .i64 0,
 V.int .i64 0, V.int .i64 0, V.int .i64 0, V.int .i64 0, V.int .i64 0, V.int .i64 0, V.int .i64 0, V.int .i64 0, V.int .i64 0, V.int .i64 0, V.int .i64 0, V.int .i64 0, V.int .i64 0, V.int .i64 0,
 V.int .i64 0, V.int .i64 0, V.int .i64 0, V.int .i64 0, V.int .i64 0, V.int .i64 0, V.int .i64 0, V.int .i64 0, V.int .i64 0, V.int .i64 0, V.int .i64 0, V.int .i64 0, V.int .i64 0, V.int .i64 0,
 V.int .i64 0, V.int .i64 0, V.int .i64 0, V.int .i64 0, V.int .i64 0, V.int .i64 0, V.int .i64 0, V.int .i64 0, V.int .i64 0, V.int .i64 0, V.int .i64 0, V.int .i64 0, V.int .i64 0, V.int .i64 0,
 V.int .i64 0, V.int .i64 0, V.int .i64 0, V.int .i64 0, V.int .i64 0, V.int .i64 0] 0 x2) false, Ob.box 130 [V.int .i64 x5, V.int .i64 x6, V.int .i64 x7, V.int .i64 x8, V.int .i64 x9, V.int .i64 x10,
 V.int .i64 x11, V.int .i64 x12] false])
theorem e98 (k m q0 q1 : Nat) (y1 : Nat) (y2 : List V) : runV C (k + 1) 98 [V.sl y1 y2] = T98 (orc C k) k m q0 q1 y1 y2 := by kernel_rfl
theorem E98 (y1 : Nat) (y2 : List V) {r : V} (h : T98 (orcE C) 0 0 0 0 y1 y2 = some r) : runE C 98 [V.sl y1 y2] = some r := ofR (F := fun s => T98 (orc C s.k) s.k s.m 0 0 y1 y2) (fun k => e98 k k 0 0
 y1 y2) (by
  unfold T98
  exact
    cN cR (fun _ => cA (fun _ => cM ((cN cR (fun _ => cT (fun _ => cI (fun _ => cI (fun _ => cI (fun _ => cI (fun _ => cI (fun _ => cI (fun _ => cI (fun _ => cI (fun _ => cN cR (fun _ => cT (fun _ => cL
    (fun _ _ => cD0 gK )))))))))))))))))) h

noncomputable def T97 (O : Orc) (k m q0 q1 : Nat) (y1 : ByteArray) (y2 : Nat) (y3 : List V) : Option V := must (y1.size.ble 140737488355328) (must (decide (y3.length = y2 * 1)) (must (true && (2 +
 y2).ble 140737488355328 && ((2 + y2) * 24).ble 140737488355328) (need (O.R 0 99 [V.sl (2 + y2) (V.sl 1 [V.int .u8 (IntKind.u8.wrap (↑y1.size : Int))] :: V.sl y1.size (bytesV y1.data.toList) :: y3)])
 fun x1 => asTup (some x1) fun x2 => asSl x2[0]? fun x3 x4 => some (V.tup [V.sl x3 x4]))))
theorem e97 (k m q0 q1 : Nat) (y1 : ByteArray) (y2 : Nat) (y3 : List V) : runV C (k + 1) 97 [V.str y1, V.sl y2 y3] = T97 (orc C k) k m q0 q1 y1 y2 y3 := by kernel_rfl
theorem E97 (y1 : ByteArray) (y2 : Nat) (y3 : List V) {r : V} (h : T97 (orcE C) 0 0 0 0 y1 y2 y3 = some r) : runE C 97 [V.str y1, V.sl y2 y3] = some r := ofR (F := fun s => T97 (orc C s.k) s.k s.m 0 0
 y1 y2 y3) (fun k => e97 k k 0 0 y1 y2 y3) (by
  unfold T97
  exact
    cM ((cM ((cM ((cN cR (fun _ => cT (fun _ => cL (fun _ _ => cC)))))))))) h

noncomputable def T94l1 (O : Orc) (k m q0 q1 : Nat) (y1 : Int) (y2 : Int) (y3 : Nat) (y4 : List V) : Option V := bif decide (y2 ≥ 0) then must (inB y2 y3) (must ([V.int .u8 (IntKind.u8.wrap
 y1)].length.beq 1 && (y2.toNat * 1 + [V.int .u8 (IntKind.u8.wrap y1)].length).ble y4.length) (O.L 0 94 0 [true, true, false, true] [] m [(0, V.int .i64 (y1.fdiv 256)), (3, V.ref 0), (4, V.int .i64
 (IntKind.i64.wrap (y2 - 1)))] [Ob.row 5 y3 (splice y4 (y2.toNat * 1) [V.int .u8 (IntKind.u8.wrap y1)]) false])) else some (V.tup [V.sl y3 y4])
theorem e94l1 (k m q0 q1 : Nat) (y1 : Int) (y2 : Int) (y3 : Nat) (y4 : List V) : runL C k 94 0 [true, true, false, true] [] (m + 1) [(0, V.int .i64 y1), (3, V.ref 0), (4, V.int .i64 y2)] [Ob.row 5 y3
 y4 false] = T94l1 (orc C k) k m q0 q1 y1 y2 y3 y4 := by kernel_rfl
theorem E94l1 (y1 : Int) (y2 : Int) (y3 : Nat) (y4 : List V) {r : V} (h : T94l1 (orcE C) 0 0 0 0 y1 y2 y3 y4 = some r) : loopE C 94 0 [true, true, false, true] [] [(0, V.int .i64 y1), (3, V.ref 0), (4,
 V.int .i64 y2)] [Ob.row 5 y3 y4 false] = some r := ofL (j := 0) (F := fun s => T94l1 (orc C s.k) s.k s.m 0 0 y1 y2 y3 y4) (fs0 fun k m => e94l1 k m 0 0 y1 y2 y3 y4) (by
  unfold T94l1
  exact
    cF (cM ((cM ((cD0 gM ))))) (cC)) h

noncomputable def T95l1 (O : Orc) (k m q0 q1 : Nat) (y1 : Nat) (y2 : List V) (y3 : Int) (y4 : Int) (y5 : Int) : Option V := bif decide (y5 < y4) then must (inB y5 y1) (PI.asInt .i64 y2[y5.toNat * 3]?
 fun x1 => PI.asInt .i64 y2[y5.toNat * 3 + 1]? fun x2 => PI.asInt .i64 y2[y5.toNat * 3 + 1 + 1]? fun x3 => need (O.R 0 96 [V.agg [V.int .i64 x1, V.int .i64 x2, V.int .i64 x3], V.pin [V.int .i64 y3] 0])
 fun x4 => asTup (some x4) fun x5 => PI.asBool x5[0]? fun x6 => bif x6 then some (V.tup [V.int .i64 y5]) else O.L 0 95 0 [true, false, true] [] m [(0, V.sl y1 y2), (1, V.fn 96 [V.pin [V.int .i64 y3]
 0]), (7, V.int .i64 y4), (8, V.int .i64 (IntKind.i64.wrap (y5 + 1)))] []) else some (V.tup [V.int .i64 (-1)])
theorem e95l1 (k m q0 q1 : Nat) (y1 : Nat) (y2 : List V) (y3 : Int) (y4 : Int) (y5 : Int) : runL C k 95 0 [true, false, true] [] (m + 1) [(0, V.sl y1 y2), (1, V.fn 96 [V.pin [V.int .i64 y3] 0]), (7,
 V.int .i64 y4), (8, V.int .i64 y5)] [] = T95l1 (orc C k) k m q0 q1 y1 y2 y3 y4 y5 := by kernel_rfl
theorem E95l1 (y1 : Nat) (y2 : List V) (y3 : Int) (y4 : Int) (y5 : Int) {r : V} (h : T95l1 (orcE C) 0 0 0 0 y1 y2 y3 y4 y5 = some r) : loopE C 95 0 [true, false, true] [] [(0, V.sl y1 y2), (1, V.fn 96
 [V.pin [V.int .i64 y3] 0]), (7, V.int .i64 y4), (8, V.int .i64 y5)] [] = some r := ofL (j := 0) (F := fun s => T95l1 (orc C s.k) s.k s.m 0 0 y1 y2 y3 y4 y5) (fs0 fun k m => e95l1 k m 0 0 y1 y2 y3 y4
 y5) (by
  unfold T95l1
  exact
    cF (cM ((cI (fun _ => cI (fun _ => cI (fun _ => cN cR (fun _ => cT (fun _ => cB (fun _ => cF (cC) (cD0 gM )))))))))) (cC)) h

noncomputable def T100 (O : Orc) (k m q0 q1 : Nat)  : Option V := some (V.agg [V.int .i64 1116352408, V.int .i64 1899447441, V.int .i64 3049323471, V.int .i64 3921009573, V.int .i64 961987163, V.int
 .i64 1508970993, V.int .i64 2453635748, V.int .i64 2870763221, V.int .i64 3624381080, V.int .i64 310598401, V.int .i64 607225278, V.int .i64 1426881987, V.int .i64 1925078388, V.int .i64 2162078206,
 V.int .i64 2614888103, V.int .i64 3248222580, V.int .i64 3835390401, V.int .i64 4022224774, V.int .i64 264347078, V.int .i64 604807628, V.int .i64 770255983, V.int .i64 1249150122, V.int .i64
 1555081692, V.int .i64 1996064986, V.int .i64 2554220882, V.int .i64 2821834349, V.int .i64 2952996808, V.int .i64 3210313671, V.int .i64 3336571891, V.int .i64 3584528711, V.int .i64 113926993, V.int
 .i64 338241895, V.int .i64 666307205, V.int .i64 773529912, V.int .i64 1294757372, V.int .i64 1396182291, V.int .i64 1695183700, V.int .i64 1986661051, V.int .i64 2177026350, V.int .i64 2456956037,
 V.int .i64 2730485921, V.int .i64 2820302411, V.int .i64 3259730800, V.int .i64 3345764771, V.int .i64 3516065817, V.int .i64 3600352804, V.int .i64 4094571909, V.int .i64 275423344, V.int .i64
 430227734, V.int .i64 506948616, V.int .i64 659060556, V.int .i64 883997877, V.int .i64 958139571, V.int .i64 1322822218, V.int .i64 1537002063, V.int .i64 1747873779, V.int .i64 1955562222, V.int
 .i64 2024104815, V.int .i64 2227730452, V.int .i64 2361852424, V.int .i64 2428436474, V.int .i64 2756734187, V.int .i64 3204031479, V.int .i64 3329325298])
theorem e100 (k m q0 q1 : Nat)  : runV C (k + 1) 100 [] = T100 (orc C k) k m q0 q1  := by kernel_rfl
theorem E100  {r : V} (h : T100 (orcE C) 0 0 0 0  = some r) : runE C 100 [] = some r := ofR (F := fun s => T100 (orc C s.k) s.k s.m 0 0 ) (fun k => e100 k k 0 0 ) (by
  unfold T100
  exact
    cC) h

noncomputable def T101 (O : Orc) (k m q0 q1 : Nat)  : Option V := some (V.tup [V.int .i64 1779033703, V.int .i64 3144134277, V.int .i64 1013904242, V.int .i64 2773480762, V.int .i64 1359893119, V.int
 .i64 2600822924, V.int .i64 528734635, V.int .i64 1541459225])
theorem e101 (k m q0 q1 : Nat)  : runV C (k + 1) 101 [] = T101 (orc C k) k m q0 q1  := by kernel_rfl
theorem E101  {r : V} (h : T101 (orcE C) 0 0 0 0  = some r) : runE C 101 [] = some r := ofR (F := fun s => T101 (orc C s.k) s.k s.m 0 0 ) (fun k => e101 k k 0 0 ) (by
  unfold T101
  exact
    cC) h

noncomputable def T102 (O : Orc) (k m q0 q1 : Nat) (y1 : Nat) (y2 : List V) : Option V := must (decide (y2.length = y1 * 1)) (must (true && (0 + y1).ble 140737488355328 && ((0 + y1) * 1).ble
 140737488355328) (must (true && (0 + y1 + 1).ble 140737488355328 && ((0 + y1 + 1) * 1).ble 140737488355328) (O.L 0 102 0 [true, true, false] [] k [(0, V.sl y1 y2), (3, V.ref 0)] [Ob.row 5 (0 + y1 + 1)
 (y2 ++ [V.int .u8 128]) false])))
theorem e102 (k m q0 q1 : Nat) (y1 : Nat) (y2 : List V) : runV C (k + 1) 102 [V.sl y1 y2] = T102 (orc C k) k m q0 q1 y1 y2 := by kernel_rfl
theorem E102 (y1 : Nat) (y2 : List V) {r : V} (h : T102 (orcE C) 0 0 0 0 y1 y2 = some r) : runE C 102 [V.sl y1 y2] = some r := ofR (F := fun s => T102 (orc C s.k) s.k s.m 0 0 y1 y2) (fun k => e102 k k
 0 0 y1 y2) (by
  unfold T102
  exact
    cM ((cM ((cM ((cD0 gK ))))))) h

noncomputable def T98l1 (O : Orc) (k m q0 q1 : Nat) (y1 : Nat) (y2 : List V) (y3 : Int) (y4 : List V) (y5 : List V) : Option V := bif decide (y3 < (↑y1 : Int)) then O.L 0 98 2 [true, true, true, true,
 false, true, false, true, false, false, true, false, true] [m] k [(3, V.ptr 0 0), (4, V.ptr 1 0), (5, V.sl y1 y2), (6, V.int .i64 y3), (7, V.ptr 2 0), (8, V.int .i64 0)] [Ob.box 128 y4 false, Ob.box
 130 y5 false, Ob.box 128 [V.int .i64 0, V.int .i64 0, V.int .i64 0, V.int .i64 0, V.int .i64 0, V.int .i64 0, V.int .i64 0, V.int .i64 0, V.int .i64 0, V.int .i64 0, V.int .i64 0, V.int .i64 0, V.int
 .i64 0, V.int .i64 0, V.int .i64 0, V.int .i64 0, V.int .i64 0, V.int .i64 0, V.int .i64 0, V.int .i64 0, V.int .i64 0, V.int .i64 0, V.int .i64 0, V.int .i64 0, V.int .i64 0, V.int .i64 0, V.int .i64
 0, V.int .i64 0, V.int .i64 0, V.int .i64 0, V.int .i64 0, V.int .i64 0, V.int .i64 0, V.int .i64 0, V.int .i64 0, V.int .i64 0, V.int .i64 0, V.int .i64 0, V.int .i64 0, V.int .i64 0, V.int .i64 0,
 V.int .i64 0, V.int .i64 0, V.int .i64 0, V.int .i64 0, V.int .i64 0, V.int .i64 0, V.int .i64 0, V.int .i64 0, V.int .i64 0, V.int .i64 0, V.int .i64 0, V.int .i64 0, V.int .i64 0, V.int .i64 0,
 V.int .i64 0, V.int .i64 0, V.int .i64 0, V.int .i64 0, V.int .i64 0, V.int .i64 0, V.int .i64 0, V.int .i64 0, V.int .i64 0] false] else O.L 0 98 10 [true, true, true, true, true, true, false, true]
 [] k [(4, V.ptr 0 0), (17, V.ref 1), (18, V.int .i64 0)] [Ob.box 130 y5 false, Ob.row 5 0 [] false]
theorem e98l1 (k m q0 q1 : Nat) (y1 : Nat) (y2 : List V) (y3 : Int) (y4 : List V) (y5 : List V) : runL C k 98 0 [true, true, true, true, false, true] [] (m + 1) [(3, V.ptr 0 0), (4, V.ptr 1 0), (5,
 V.sl y1 y2), (6, V.int .i64 y3)] [Ob.box 128 y4 false, Ob.box 130 y5 false] = T98l1 (orc C k) k m q0 q1 y1 y2 y3 y4 y5 := by kernel_rfl
theorem E98l1 (y1 : Nat) (y2 : List V) (y3 : Int) (y4 : List V) (y5 : List V) {r : V} (h : T98l1 (orcE C) 0 0 0 0 y1 y2 y3 y4 y5 = some r) : loopE C 98 0 [true, true, true, true, false, true] [] [(3,
 V.ptr 0 0), (4, V.ptr 1 0), (5, V.sl y1 y2), (6, V.int .i64 y3)] [Ob.box 128 y4 false, Ob.box 130 y5 false] = some r := ofL (j := 0) (F := fun s => T98l1 (orc C s.k) s.k s.m 0 0 y1 y2 y3 y4 y5) (fs0
 fun k m => e98l1 k m 0 0 y1 y2 y3 y4 y5) (by
  unfold T98l1
  exact
    cF (cD1 gK gM) (cD0 gK )) h

noncomputable def T99 (O : Orc) (k m q0 q1 : Nat) (y1 : Nat) (y2 : List V) : Option V := O.L 0 99 0 [true, true, false, true] [] k [(3, V.ref 0), (13, V.sl y1 y2), (14, V.int .i64 (↑y1 : Int)), (15,
 V.int .i64 0)] [Ob.row 5 0 [] false]
theorem e99 (k m q0 q1 : Nat) (y1 : Nat) (y2 : List V) : runV C (k + 1) 99 [V.sl y1 y2] = T99 (orc C k) k m q0 q1 y1 y2 := by kernel_rfl
theorem E99 (y1 : Nat) (y2 : List V) {r : V} (h : T99 (orcE C) 0 0 0 0 y1 y2 = some r) : runE C 99 [V.sl y1 y2] = some r := ofR (F := fun s => T99 (orc C s.k) s.k s.m 0 0 y1 y2) (fun k => e99 k k 0 0
 y1 y2) (by
  unfold T99
  exact
    cD0 gK ) h

noncomputable def T96 (O : Orc) (k m q0 q1 : Nat) (y1 : Int) (y2 : Int) (y3 : Int) (y4 : Int) : Option V := some (V.tup [V.bool (y1 == y4)])
theorem e96 (k m q0 q1 : Nat) (y1 : Int) (y2 : Int) (y3 : Int) (y4 : Int) : runV C (k + 1) 96 [V.agg [V.int .i64 y1, V.int .i64 y2, V.int .i64 y3], V.pin [V.int .i64 y4] 0] = T96 (orc C k) k m q0 q1 y1
 y2 y3 y4 := by kernel_rfl
theorem E96 (y1 : Int) (y2 : Int) (y3 : Int) (y4 : Int) {r : V} (h : T96 (orcE C) 0 0 0 0 y1 y2 y3 y4 = some r) : runE C 96 [V.agg [V.int .i64 y1, V.int .i64 y2, V.int .i64 y3], V.pin [V.int .i64 y4]
 0] = some r := ofR (F := fun s => T96 (orc C s.k) s.k s.m 0 0 y1 y2 y3 y4) (fun k => e96 k k 0 0 y1 y2 y3 y4) (by
  unfold T96
  exact
    cC) h

noncomputable def T102l1 (O : Orc) (k m q0 q1 : Nat) (y1 : Nat) (y2 : List V) (y3 : Nat) (y4 : List V) : Option V := bif (↑y3 : Int).tmod 64 != 56 then must (true && (y3 + 1).ble 140737488355328 &&
 ((y3 + 1) * 1).ble 140737488355328) (O.L 0 102 0 [true, true, false] [] m [(0, V.sl y1 y2), (3, V.ref 0)] [Ob.row 5 (y3 + 1) (y4 ++ [V.int .u8 0]) false]) else O.L 0 102 2 [true, true, true, true,
 false, true] [] k [(3, V.ref 0), (4, V.int .i64 (IntKind.i64.wrap ((↑y1 : Int) * 8))), (5, V.int .i64 7)] [Ob.row 5 y3 y4 false]
theorem e102l1 (k m q0 q1 : Nat) (y1 : Nat) (y2 : List V) (y3 : Nat) (y4 : List V) : runL C k 102 0 [true, true, false] [] (m + 1) [(0, V.sl y1 y2), (3, V.ref 0)] [Ob.row 5 y3 y4 false] = T102l1 (orc C
 k) k m q0 q1 y1 y2 y3 y4 := by kernel_rfl
theorem E102l1 (y1 : Nat) (y2 : List V) (y3 : Nat) (y4 : List V) {r : V} (h : T102l1 (orcE C) 0 0 0 0 y1 y2 y3 y4 = some r) : loopE C 102 0 [true, true, false] [] [(0, V.sl y1 y2), (3, V.ref 0)]
 [Ob.row 5 y3 y4 false] = some r := ofL (j := 0) (F := fun s => T102l1 (orc C s.k) s.k s.m 0 0 y1 y2 y3 y4) (fs0 fun k m => e102l1 k m 0 0 y1 y2 y3 y4) (by
  unfold T102l1
  exact
    cF (cM ((cD0 gM ))) (cD0 gK )) h

noncomputable def T98l2 (O : Orc) (k m q0 q1 : Nat) (y1 : Nat) (y2 : List V) (y3 : Int) (y4 : Int) (y5 : List V) (y6 : List V) (y7 : List V) : Option V := bif decide (y4 < 16) then must (decide (0 ≤
 IntKind.i64.wrap (IntKind.i64.wrap (y3 + IntKind.i64.wrap (4 * y4)) + 4)) && decide (IntKind.i64.wrap (IntKind.i64.wrap (y3 + IntKind.i64.wrap (4 * y4)) + 4) ≤ (↑y1 : Int))) (must (decide (0 ≤
 IntKind.i64.wrap (y3 + IntKind.i64.wrap (4 * y4))) && decide (IntKind.i64.wrap (y3 + IntKind.i64.wrap (4 * y4)) ≤ (↑(IntKind.i64.wrap (IntKind.i64.wrap (y3 + IntKind.i64.wrap (4 * y4)) + 4)).toNat :
 Int))) (need (O.R 0 52 [V.sl ((IntKind.i64.wrap (IntKind.i64.wrap (y3 + IntKind.i64.wrap (4 * y4)) + 4)).toNat - (IntKind.i64.wrap (y3 + IntKind.i64.wrap (4 * y4))).toNat) (List.take
 (((IntKind.i64.wrap (IntKind.i64.wrap (y3 + IntKind.i64.wrap (4 * y4)) + 4)).toNat - (IntKind.i64.wrap (y3 + IntKind.i64.wrap (4 * y4))).toNat) * 1) (List.drop ((IntKind.i64.wrap (y3 +
 IntKind.i64.wrap (4 * y4))).toNat * 1) y2))]) fun x1 => asTup (some x1) fun x2 => PI.asInt .i64 x2[0]? fun x3 => must (inB y4 64) (must ((V.int .i64 x3).solid && true && (0 + y4.toNat * 1 + 1).ble
 y7.length && flatB C 128 [V.int .i64 x3]) (O.L 0 98 2 [true, true, true, true, false, true, false, true, false, false, true, false, true] [q0] m [(3, V.ptr 0 0), (4, V.ptr 1 0), (5, V.sl y1 y2), (6,
 V.int .i64 y3), (7, V.ptr 2 0), (8, V.int .i64 (IntKind.i64.wrap (y4 + 1)))] [Ob.box 128 y5 false, Ob.box 130 y6 false, Ob.box 128 (splice y7 (0 + y4.toNat * 1) [V.int .i64 x3]) false])))) else O.L 0
 98 4 [true, true, true, true, false, true, false, true, false, false, true, true, false, true] [q0] k [(3, V.ptr 0 0), (4, V.ptr 1 0), (5, V.sl y1 y2), (6, V.int .i64 y3), (7, V.ptr 2 0), (9, V.int
 .i64 16)] [Ob.box 128 y5 false, Ob.box 130 y6 false, Ob.box 128 y7 false]
theorem e98l2 (k m q0 q1 : Nat) (y1 : Nat) (y2 : List V) (y3 : Int) (y4 : Int) (y5 : List V) (y6 : List V) (y7 : List V) : runL C k 98 2 [true, true, true, true, false, true, false, true, false, false,
 true, false, true] [q0] (m + 1) [(3, V.ptr 0 0), (4, V.ptr 1 0), (5, V.sl y1 y2), (6, V.int .i64 y3), (7, V.ptr 2 0), (8, V.int .i64 y4)] [Ob.box 128 y5 false, Ob.box 130 y6 false, Ob.box 128 y7
 false] = T98l2 (orc C k) k m q0 q1 y1 y2 y3 y4 y5 y6 y7 := by kernel_rfl
theorem E98l2 (y1 : Nat) (y2 : List V) (y3 : Int) (y4 : Int) (y5 : List V) (y6 : List V) (y7 : List V) {r : V} (h : T98l2 (orcE C) 0 0 0 0 y1 y2 y3 y4 y5 y6 y7 = some r) : loopE C 98 2 [true, true,
 true, true, false, true, false, true, false, false, true, false, true] [0] [(3, V.ptr 0 0), (4, V.ptr 1 0), (5, V.sl y1 y2), (6, V.int .i64 y3), (7, V.ptr 2 0), (8, V.int .i64 y4)] [Ob.box 128 y5
 false, Ob.box 130 y6 false, Ob.box 128 y7 false] = some r := ofL (j := 0) (F := fun s => T98l2 (orc C s.k) s.k s.m (s.fs.getD 0 0) 0 y1 y2 y3 y4 y5 y6 y7) (fs1 fun k m q0 => e98l2 k m q0 0 y1 y2 y3 y4
 y5 y6 y7) (by
  unfold T98l2
  exact
    cF (cM ((cM ((cN cR (fun _ => cT (fun _ => cI (fun _ => cM ((cM ((cD1 gM (gF (i := 0) (by decide)))))))))))))) (cD1 gK (gF (i := 0) (by decide)))) h

noncomputable def T98l3 (O : Orc) (k m q0 q1 : Nat) (y1 : Int) (y2 : List V) (y3 : Nat) (y4 : List V) : Option V := bif decide (y1 < 8) then O.L 0 98 12 [true, true, true, true, true, true, false,
 true, false, true, false, false, true] [m] k [(4, V.ptr 0 0), (17, V.ref 1), (18, V.int .i64 y1), (19, V.int .i64 3)] [Ob.box 130 y2 false, Ob.row 5 y3 y4 false] else some (V.tup [V.sl y3 y4])
theorem e98l3 (k m q0 q1 : Nat) (y1 : Int) (y2 : List V) (y3 : Nat) (y4 : List V) : runL C k 98 10 [true, true, true, true, true, true, false, true] [] (m + 1) [(4, V.ptr 0 0), (17, V.ref 1), (18,
 V.int .i64 y1)] [Ob.box 130 y2 false, Ob.row 5 y3 y4 false] = T98l3 (orc C k) k m q0 q1 y1 y2 y3 y4 := by kernel_rfl
theorem E98l3 (y1 : Int) (y2 : List V) (y3 : Nat) (y4 : List V) {r : V} (h : T98l3 (orcE C) 0 0 0 0 y1 y2 y3 y4 = some r) : loopE C 98 10 [true, true, true, true, true, true, false, true] [] [(4, V.ptr
 0 0), (17, V.ref 1), (18, V.int .i64 y1)] [Ob.box 130 y2 false, Ob.row 5 y3 y4 false] = some r := ofL (j := 0) (F := fun s => T98l3 (orc C s.k) s.k s.m 0 0 y1 y2 y3 y4) (fs0 fun k m => e98l3 k m 0 0
 y1 y2 y3 y4) (by
  unfold T98l3
  exact
    cF (cD1 gK gM) (cC)) h

noncomputable def T99l1 (O : Orc) (k m q0 q1 : Nat) (y1 : Nat) (y2 : List V) (y3 : Int) (y4 : Int) (y5 : Nat) (y6 : List V) : Option V := bif decide (y4 < y3) then must (inB y4 y1) (must (decide
 (y4.toNat * 1 < y2.length)) (asSl y2[y4.toNat * 1]? fun x1 x2 => must (decide (x2.length = x1 * 1)) (must (true && (y5 + x1).ble 140737488355328 && ((y5 + x1) * 1).ble 140737488355328) (O.L 0 99 0
 [true, true, false, true] [] m [(3, V.ref 0), (13, V.sl y1 y2), (14, V.int .i64 y3), (15, V.int .i64 (IntKind.i64.wrap (y4 + 1)))] [Ob.row 5 (y5 + x1) (y6 ++ x2) false])))) else must (true && (y5 +
 1).ble 140737488355328 && ((y5 + 1) * 1).ble 140737488355328) (O.L 0 99 2 [true, true, true, true, true, false] [] k [(3, V.ref 0), (6, V.int .u64 (IntKind.u64.wrap (IntKind.u64.wrap (↑y5 : Int) *
 8)))] [Ob.row 5 (y5 + 1) (y6 ++ [V.int .u8 128]) false])
theorem e99l1 (k m q0 q1 : Nat) (y1 : Nat) (y2 : List V) (y3 : Int) (y4 : Int) (y5 : Nat) (y6 : List V) : runL C k 99 0 [true, true, false, true] [] (m + 1) [(3, V.ref 0), (13, V.sl y1 y2), (14, V.int
 .i64 y3), (15, V.int .i64 y4)] [Ob.row 5 y5 y6 false] = T99l1 (orc C k) k m q0 q1 y1 y2 y3 y4 y5 y6 := by kernel_rfl
theorem E99l1 (y1 : Nat) (y2 : List V) (y3 : Int) (y4 : Int) (y5 : Nat) (y6 : List V) {r : V} (h : T99l1 (orcE C) 0 0 0 0 y1 y2 y3 y4 y5 y6 = some r) : loopE C 99 0 [true, true, false, true] [] [(3,
 V.ref 0), (13, V.sl y1 y2), (14, V.int .i64 y3), (15, V.int .i64 y4)] [Ob.row 5 y5 y6 false] = some r := ofL (j := 0) (F := fun s => T99l1 (orc C s.k) s.k s.m 0 0 y1 y2 y3 y4 y5 y6) (fs0 fun k m =>
 e99l1 k m 0 0 y1 y2 y3 y4 y5 y6) (by
  unfold T99l1
  exact
    cF (cM ((cM ((cL (fun _ _ => cM ((cM ((cD0 gM )))))))))) (cM ((cD0 gK )))) h

noncomputable def T102l2 (O : Orc) (k m q0 q1 : Nat) (y1 : Int) (y2 : Int) (y3 : Nat) (y4 : List V) : Option V := bif decide (y2 ≥ 0) then must (decide (0 ≤ IntKind.u64.wrap (IntKind.i64.wrap (8 *
 y2)))) (must (true && (y3 + 1).ble 140737488355328 && ((y3 + 1) * 1).ble 140737488355328) (O.L 0 102 2 [true, true, true, true, false, true] [] m [(3, V.ref 0), (4, V.int .i64 y1), (5, V.int .i64
 (IntKind.i64.wrap (y2 - 1)))] [Ob.row 5 (y3 + 1) (y4 ++ [V.int .u8 (IntKind.u8.wrap (y1.fdiv (2 ^ min (IntKind.u64.wrap (IntKind.i64.wrap (8 * y2))).toNat 64)))]) false])) else some (V.tup [V.sl y3
 y4])
theorem e102l2 (k m q0 q1 : Nat) (y1 : Int) (y2 : Int) (y3 : Nat) (y4 : List V) : runL C k 102 2 [true, true, true, true, false, true] [] (m + 1) [(3, V.ref 0), (4, V.int .i64 y1), (5, V.int .i64 y2)]
 [Ob.row 5 y3 y4 false] = T102l2 (orc C k) k m q0 q1 y1 y2 y3 y4 := by kernel_rfl
theorem E102l2 (y1 : Int) (y2 : Int) (y3 : Nat) (y4 : List V) {r : V} (h : T102l2 (orcE C) 0 0 0 0 y1 y2 y3 y4 = some r) : loopE C 102 2 [true, true, true, true, false, true] [] [(3, V.ref 0), (4,
 V.int .i64 y1), (5, V.int .i64 y2)] [Ob.row 5 y3 y4 false] = some r := ofL (j := 0) (F := fun s => T102l2 (orc C s.k) s.k s.m 0 0 y1 y2 y3 y4) (fs0 fun k m => e102l2 k m 0 0 y1 y2 y3 y4) (by
  unfold T102l2
  exact
    cF (cM ((cM ((cD0 gM ))))) (cC)) h

noncomputable def T98l4 (O : Orc) (k m q0 q1 : Nat) (y1 : Nat) (y2 : List V) (y3 : Int) (y4 : Int) (y5 : List V) (y6 : List V) (y7 : List V) : Option V := bif decide (y4 < 64) then must (inB
 (IntKind.i64.wrap (y4 - 15)) 64) (PI.asInt .i64 y7[0 + (IntKind.i64.wrap (y4 - 15)).toNat * 1]? fun x1 => must (inB (IntKind.i64.wrap (y4 - 2)) 64) (PI.asInt .i64 y7[0 + (IntKind.i64.wrap (y4 -
 2)).toNat * 1]? fun x2 => need (O.R 0 103 [V.int .i64 x1, V.int .u64 7]) fun x3 => asTup (some x3) fun x4 => PI.asInt .i64 x4[0]? fun x5 => need (O.R 0 103 [V.int .i64 x1, V.int .u64 18]) fun x6 =>
 asTup (some x6) fun x7 => PI.asInt .i64 x7[0]? fun x8 => need (O.R 0 103 [V.int .i64 x2, V.int .u64 17]) fun x9 => asTup (some x9) fun x10 => PI.asInt .i64 x10[0]? fun x11 => need (O.R 0 103 [V.int
 .i64 x2, V.int .u64 19]) fun x12 => asTup (some x12) fun x13 => PI.asInt .i64 x13[0]? fun x14 => must (inB (IntKind.i64.wrap (y4 - 7)) 64) (PI.asInt .i64 y7[0 + (IntKind.i64.wrap (y4 - 7)).toNat * 1]?
 fun x15 => must (inB (IntKind.i64.wrap (y4 - 16)) 64) (PI.asInt .i64 y7[0 + (IntKind.i64.wrap (y4 - 16)).toNat * 1]? fun x16 => must (inB y4 64) (must ((V.int .i64 ((IntKind.i64.wrap (IntKind.i64.wrap
 (IntKind.i64.wrap (PI.bits IntKind.i64 (fun x1 x2 => x1 ^^^ x2) (PI.bits IntKind.i64 (fun x1 x2 => x1 ^^^ x2) x11 x14) (x2.fdiv 1024) + x15) + PI.bits IntKind.i64 (fun x1 x2 => x1 ^^^ x2) (PI.bits
 IntKind.i64 (fun x1 x2 => x1 ^^^ x2) x5 x8) (x1.fdiv 8)) + x16)).tmod 4294967296)).solid && true && (0 + y4.toNat * 1 + 1).ble y7.length && flatB C 128 [V.int .i64 ((IntKind.i64.wrap (IntKind.i64.wrap
 (IntKind.i64.wrap (PI.bits IntKind.i64 (fun x1 x2 => x1 ^^^ x2) (PI.bits IntKind.i64 (fun x1 x2 => x1 ^^^ x2) x11 x14) (x2.fdiv 1024) + x15) + PI.bits IntKind.i64 (fun x1 x2 => x1 ^^^ x2) (PI.bits
 IntKind.i64 (fun x1 x2 => x1 ^^^ x2) x5 x8) (x1.fdiv 8)) + x16)).tmod 4294967296)]) (O.L 0 98 4 [true, true, true, true, false, true, false, true, false, false, true, true, false, true] [q0] m [(3,
 V.ptr 0 0), (4, V.ptr 1 0), (5, V.sl y1 y2), (6, V.int .i64 y3), (7, V.ptr 2 0), (9, V.int .i64 (IntKind.i64.wrap (y4 + 1)))] [Ob.box 128 y5 false, Ob.box 130 y6 false, Ob.box 128 (splice y7 (0 +
 y4.toNat * 1) [V.int .i64 ((IntKind.i64.wrap (IntKind.i64.wrap (IntKind.i64.wrap (PI.bits IntKind.i64 (fun x1 x2 => x1 ^^^ x2) (PI.bits IntKind.i64 (fun x1 x2 => x1 ^^^ x2) x11 x14) (x2.fdiv 1024) +
 x15) + PI.bits IntKind.i64 (fun x1 x2 => x1 ^^^ x2) (PI.bits IntKind.i64 (fun x1 x2 => x1 ^^^ x2) x5 x8) (x1.fdiv 8)) + x16)).tmod 4294967296)]) false])))))) else PI.asInt .i64 y6[0]? fun x17 =>
 PI.asInt .i64 y6[1]? fun x18 => PI.asInt .i64 y6[2]? fun x19 => PI.asInt .i64 y6[3]? fun x20 => PI.asInt .i64 y6[4]? fun x21 => PI.asInt .i64 y6[5]? fun x22 => PI.asInt .i64 y6[6]? fun x23 => PI.asInt
 .i64 y6[7]? fun x24 => O.L 0 98 6 [true, true, true, true, false, true, false, true, false, false, true, true, true, true, false, true] [q0] k [(3, V.ptr 0 0), (4, V.ptr 1 0), (5, V.sl y1 y2), (6,
 V.int .i64 y3), (7, V.ptr 2 0), (14, V.ptr 3 0), (15, V.int .i64 0)] [Ob.box 128 y5 false, Ob.box 130 y6 false, Ob.box 128 y7 false, Ob.box 130 [V.int .i64 x17, V.int .i64 x18, V.int .i64 x19, V.int
 .i64 x20, V.int .i64 x21, V.int .i64 x22, V.int .i64 x23, V.int .i64 x24] false]
theorem e98l4 (k m q0 q1 : Nat) (y1 : Nat) (y2 : List V) (y3 : Int) (y4 : Int) (y5 : List V) (y6 : List V) (y7 : List V) : runL C k 98 4 [true, true, true, true, false, true, false, true, false, false,
 true, true, false, true] [q0] (m + 1) [(3, V.ptr 0 0), (4, V.ptr 1 0), (5, V.sl y1 y2), (6, V.int .i64 y3), (7, V.ptr 2 0), (9, V.int .i64 y4)] [Ob.box 128 y5 false, Ob.box 130 y6 false, Ob.box 128 y7
 false] = T98l4 (orc C k) k m q0 q1 y1 y2 y3 y4 y5 y6 y7 := by kernel_rfl
theorem E98l4 (y1 : Nat) (y2 : List V) (y3 : Int) (y4 : Int) (y5 : List V) (y6 : List V) (y7 : List V) {r : V} (h : T98l4 (orcE C) 0 0 0 0 y1 y2 y3 y4 y5 y6 y7 = some r) : loopE C 98 4 [true, true,
 true, true, false, true, false, true, false, false, true, true, false, true] [0] [(3, V.ptr 0 0), (4, V.ptr 1 0), (5, V.sl y1 y2), (6, V.int .i64 y3), (7, V.ptr 2 0), (9, V.int .i64 y4)] [Ob.box 128
 y5 false, Ob.box 130 y6 false, Ob.box 128 y7 false] = some r := ofL (j := 0) (F := fun s => T98l4 (orc C s.k) s.k s.m (s.fs.getD 0 0) 0 y1 y2 y3 y4 y5 y6 y7) (fs1 fun k m q0 => e98l4 k m q0 0 y1 y2 y3
 y4 y5 y6 y7) (by
  unfold T98l4
  exact
    cF (cM ((cI (fun _ => cM ((cI (fun _ => cN cR (fun _ => cT (fun _ => cI (fun _ => cN cR (fun _ => cT (fun _ => cI (fun _ => cN cR (fun _ => cT (fun _ => cI (fun _ => cN cR (fun _ => cT (fun _ => cI
    (fun _ => cM ((cI (fun _ => cM ((cI (fun _ => cM ((cM ((cD1 gM (gF (i := 0) (by decide))))))))))))))))))))))))))))))) (cI (fun _ => cI (fun _ => cI (fun _ => cI (fun _ => cI (fun _ => cI (fun _ =>
    cI (fun _ => cI (fun _ => cD1 gK (gF (i := 0) (by decide)))))))))))) h

noncomputable def T98l5 (O : Orc) (k m q0 q1 : Nat) (y1 : Int) (y2 : Int) (y3 : List V) (y4 : Nat) (y5 : List V) : Option V := bif decide (y2 ≥ 0) then must (inB y1 8) (PI.asInt .i64 y3[0 + y1.toNat *
 1]? fun x1 => must (decide (0 ≤ IntKind.u64.wrap (IntKind.i64.wrap (8 * y2)))) (must (true && (y4 + 1).ble 140737488355328 && ((y4 + 1) * 1).ble 140737488355328) (O.L 0 98 12 [true, true, true, true,
 true, true, false, true, false, true, false, false, true] [q0] m [(4, V.ptr 0 0), (17, V.ref 1), (18, V.int .i64 y1), (19, V.int .i64 (IntKind.i64.wrap (y2 - 1)))] [Ob.box 130 y3 false, Ob.row 5 (y4 +
 1) (y5 ++ [V.int .u8 (IntKind.u8.wrap (x1.fdiv (2 ^ min (IntKind.u64.wrap (IntKind.i64.wrap (8 * y2))).toNat 64)))]) false]))) else O.L 0 98 10 [true, true, true, true, true, true, false, true] [] q0
 [(4, V.ptr 0 0), (17, V.ref 1), (18, V.int .i64 (IntKind.i64.wrap (y1 + 1)))] [Ob.box 130 y3 false, Ob.row 5 y4 y5 false]
theorem e98l5 (k m q0 q1 : Nat) (y1 : Int) (y2 : Int) (y3 : List V) (y4 : Nat) (y5 : List V) : runL C k 98 12 [true, true, true, true, true, true, false, true, false, true, false, false, true] [q0] (m
 + 1) [(4, V.ptr 0 0), (17, V.ref 1), (18, V.int .i64 y1), (19, V.int .i64 y2)] [Ob.box 130 y3 false, Ob.row 5 y4 y5 false] = T98l5 (orc C k) k m q0 q1 y1 y2 y3 y4 y5 := by kernel_rfl
theorem E98l5 (y1 : Int) (y2 : Int) (y3 : List V) (y4 : Nat) (y5 : List V) {r : V} (h : T98l5 (orcE C) 0 0 0 0 y1 y2 y3 y4 y5 = some r) : loopE C 98 12 [true, true, true, true, true, true, false, true,
 false, true, false, false, true] [0] [(4, V.ptr 0 0), (17, V.ref 1), (18, V.int .i64 y1), (19, V.int .i64 y2)] [Ob.box 130 y3 false, Ob.row 5 y4 y5 false] = some r := ofL (j := 0) (F := fun s => T98l5
 (orc C s.k) s.k s.m (s.fs.getD 0 0) 0 y1 y2 y3 y4 y5) (fs1 fun k m q0 => e98l5 k m q0 0 y1 y2 y3 y4 y5) (by
  unfold T98l5
  exact
    cF (cM ((cI (fun _ => cM ((cM ((cD1 gM (gF (i := 0) (by decide)))))))))) (cD0 (gF (i := 0) (by decide)) )) h

noncomputable def T99l2 (O : Orc) (k m q0 q1 : Nat) (y1 : Int) (y2 : Nat) (y3 : List V) : Option V := bif (↑y2 : Int).tmod 64 != 56 then must (true && (y2 + 1).ble 140737488355328 && ((y2 + 1) * 1).ble
 140737488355328) (O.L 0 99 2 [true, true, true, true, true, false] [] m [(3, V.ref 0), (6, V.int .u64 y1)] [Ob.row 5 (y2 + 1) (y3 ++ [V.int .u8 0]) false]) else O.L 0 99 4 [true, true, true, true,
 true, true, false, true] [] k [(3, V.ref 0), (6, V.int .u64 y1), (7, V.int .i64 56)] [Ob.row 5 y2 y3 false]
theorem e99l2 (k m q0 q1 : Nat) (y1 : Int) (y2 : Nat) (y3 : List V) : runL C k 99 2 [true, true, true, true, true, false] [] (m + 1) [(3, V.ref 0), (6, V.int .u64 y1)] [Ob.row 5 y2 y3 false] = T99l2
 (orc C k) k m q0 q1 y1 y2 y3 := by kernel_rfl
theorem E99l2 (y1 : Int) (y2 : Nat) (y3 : List V) {r : V} (h : T99l2 (orcE C) 0 0 0 0 y1 y2 y3 = some r) : loopE C 99 2 [true, true, true, true, true, false] [] [(3, V.ref 0), (6, V.int .u64 y1)]
 [Ob.row 5 y2 y3 false] = some r := ofL (j := 0) (F := fun s => T99l2 (orc C s.k) s.k s.m 0 0 y1 y2 y3) (fs0 fun k m => e99l2 k m 0 0 y1 y2 y3) (by
  unfold T99l2
  exact
    cF (cM ((cD0 gM ))) (cD0 gK )) h

noncomputable def T103 (O : Orc) (k m q0 q1 : Nat) (y1 : Int) (y2 : Int) : Option V := must (decide (0 ≤ y2)) (must (decide (0 ≤ IntKind.u64.wrap (32 - y2))) (some (V.tup [V.int .i64 ((PI.bits
 IntKind.i64 (fun x1 x2 => x1 ||| x2) (y1.fdiv (2 ^ min y2.toNat 64)) (IntKind.i64.wrap (y1 * 2 ^ min (IntKind.u64.wrap (32 - y2)).toNat 64))).tmod 4294967296)])))
theorem e103 (k m q0 q1 : Nat) (y1 : Int) (y2 : Int) : runV C (k + 1) 103 [V.int .i64 y1, V.int .u64 y2] = T103 (orc C k) k m q0 q1 y1 y2 := by kernel_rfl
theorem E103 (y1 : Int) (y2 : Int) {r : V} (h : T103 (orcE C) 0 0 0 0 y1 y2 = some r) : runE C 103 [V.int .i64 y1, V.int .u64 y2] = some r := ofR (F := fun s => T103 (orc C s.k) s.k s.m 0 0 y1 y2) (fun
 k => e103 k k 0 0 y1 y2) (by
  unfold T103
  exact
    cM ((cM ((cC))))) h

noncomputable def T98l6 (O : Orc) (k m q0 q1 : Nat) (y1 : Nat) (y2 : List V) (y3 : Int) (y4 : Int) (y5 : List V) (y6 : List V) (y7 : List V) (y8 : List V) : Option V := bif decide (y4 < 64) then
 PI.asInt .i64 y8[0]? fun x1 => PI.asInt .i64 y8[1]? fun x2 => PI.asInt .i64 y8[2]? fun x3 => PI.asInt .i64 y8[3]? fun x4 => PI.asInt .i64 y8[4]? fun x5 => PI.asInt .i64 y8[5]? fun x6 => PI.asInt .i64
 y8[6]? fun x7 => PI.asInt .i64 y8[7]? fun x8 => must (inB y4 64) (PI.asInt .i64 y7[0 + y4.toNat * 1]? fun x9 => must (inB y4 64) (PI.asInt .i64 y5[0 + y4.toNat * 1]? fun x10 => need (O.R 0 104 [V.agg
 [V.int .i64 x1, V.int .i64 x2, V.int .i64 x3, V.int .i64 x4, V.int .i64 x5, V.int .i64 x6, V.int .i64 x7, V.int .i64 x8], V.int .i64 x9, V.int .i64 x10]) fun x11 => asTup (some x11) fun x12 =>
 PI.asInt .i64 x12[0]? fun x13 => PI.asInt .i64 x12[1]? fun x14 => PI.asInt .i64 x12[2]? fun x15 => PI.asInt .i64 x12[3]? fun x16 => PI.asInt .i64 x12[4]? fun x17 => PI.asInt .i64 x12[5]? fun x18 =>
 PI.asInt .i64 x12[6]? fun x19 => PI.asInt .i64 x12[7]? fun x20 => must ([V.int .i64 x13, V.int .i64 x14, V.int .i64 x15, V.int .i64 x16, V.int .i64 x17, V.int .i64 x18, V.int .i64 x19, V.int .i64
 x20].length.beq 8 && true && (0 + [V.int .i64 x13, V.int .i64 x14, V.int .i64 x15, V.int .i64 x16, V.int .i64 x17, V.int .i64 x18, V.int .i64 x19, V.int .i64 x20].length).ble y8.length && flatB C 130
 [V.int .i64 x13, V.int .i64 x14, V.int .i64 x15, V.int .i64 x16, V.int .i64 x17, V.int .i64 x18, V.int .i64 x19, V.int .i64 x20]) (O.L 0 98 6 [true, true, true, true, false, true, false, true, false,
 false, true, true, true, true, false, true] [q0] m [(3, V.ptr 0 0), (4, V.ptr 1 0), (5, V.sl y1 y2), (6, V.int .i64 y3), (7, V.ptr 2 0), (14, V.ptr 3 0), (15, V.int .i64 (IntKind.i64.wrap (y4 + 1)))]
 [Ob.box 128 y5 false, Ob.box 130 y6 false, Ob.box 128 y7 false, Ob.box 130 (splice y8 0 [V.int .i64 x13, V.int .i64 x14, V.int .i64 x15, V.int .i64 x16, V.int .i64 x17, V.int .i64 x18, V.int .i64 x19,
 V.int .i64 x20]) false]))) else O.L 0 98 8 [true, true, true, true, false, true, false, true, false, false, true, true, true, true, true, true] [q0] k [(3, V.ptr 0 0), (4, V.ptr 1 0), (5, V.sl y1 y2),
 (6, V.int .i64 y3), (14, V.ptr 2 0), (16, V.int .i64 0)] [Ob.box 128 y5 false, Ob.box 130 y6 false, Ob.box 130 y8 false]
theorem e98l6 (k m q0 q1 : Nat) (y1 : Nat) (y2 : List V) (y3 : Int) (y4 : Int) (y5 : List V) (y6 : List V) (y7 : List V) (y8 : List V) : runL C k 98 6 [true, true, true, true, false, true, false, true,
 false, false, true, true, true, true, false, true] [q0] (m + 1) [(3, V.ptr 0 0), (4, V.ptr 1 0), (5, V.sl y1 y2), (6, V.int .i64 y3), (7, V.ptr 2 0), (14, V.ptr 3 0), (15, V.int .i64 y4)] [Ob.box 128
 y5 false, Ob.box 130 y6 false, Ob.box 128 y7 false, Ob.box 130 y8 false] = T98l6 (orc C k) k m q0 q1 y1 y2 y3 y4 y5 y6 y7 y8 := by kernel_rfl
theorem E98l6 (y1 : Nat) (y2 : List V) (y3 : Int) (y4 : Int) (y5 : List V) (y6 : List V) (y7 : List V) (y8 : List V) {r : V} (h : T98l6 (orcE C) 0 0 0 0 y1 y2 y3 y4 y5 y6 y7 y8 = some r) : loopE C 98 6
 [true, true, true, true, false, true, false, true, false, false, true, true, true, true, false, true] [0] [(3, V.ptr 0 0), (4, V.ptr 1 0), (5, V.sl y1 y2), (6, V.int .i64 y3), (7, V.ptr 2 0), (14,
 V.ptr 3 0), (15, V.int .i64 y4)] [Ob.box 128 y5 false, Ob.box 130 y6 false, Ob.box 128 y7 false, Ob.box 130 y8 false] = some r := ofL (j := 0) (F := fun s => T98l6 (orc C s.k) s.k s.m (s.fs.getD 0 0)
 0 y1 y2 y3 y4 y5 y6 y7 y8) (fs1 fun k m q0 => e98l6 k m q0 0 y1 y2 y3 y4 y5 y6 y7 y8) (by
  unfold T98l6
  exact
    cF (cI (fun _ => cI (fun _ => cI (fun _ => cI (fun _ => cI (fun _ => cI (fun _ => cI (fun _ => cI (fun _ => cM ((cI (fun _ => cM ((cI (fun _ => cN cR (fun _ => cT (fun _ => cI (fun _ => cI (fun _ => cI
    (fun _ => cI (fun _ => cI (fun _ => cI (fun _ => cI (fun _ => cI (fun _ => cM ((cD1 gM (gF (i := 0) (by decide))))))))))))))))))))))))))))) (cD1 gK (gF (i := 0) (by decide)))) h

noncomputable def T99l3 (O : Orc) (k m q0 q1 : Nat) (y1 : Int) (y2 : Int) (y3 : Nat) (y4 : List V) : Option V := bif decide (y2 ≥ 0) then must (decide (0 ≤ y2)) (must (true && (y3 + 1).ble
 140737488355328 && ((y3 + 1) * 1).ble 140737488355328) (O.L 0 99 4 [true, true, true, true, true, true, false, true] [] m [(3, V.ref 0), (6, V.int .u64 y1), (7, V.int .i64 (IntKind.i64.wrap (y2 -
 8)))] [Ob.row 5 (y3 + 1) (y4 ++ [V.int .u8 (IntKind.u8.wrap (y1.fdiv (2 ^ min y2.toNat 64)))]) false])) else O.L 0 99 6 [true, true, true, true, true, true, true, true, false] [] k [(3, V.ref 0), (8,
 V.ptr 1 0)] [Ob.row 5 y3 y4 false, Ob.box 136 [V.int .u32 1779033703, V.int .u32 3144134277, V.int .u32 1013904242, V.int .u32 2773480762, V.int .u32 1359893119, V.int .u32 2600822924, V.int .u32
 528734635, V.int .u32 1541459225] false]
theorem e99l3 (k m q0 q1 : Nat) (y1 : Int) (y2 : Int) (y3 : Nat) (y4 : List V) : runL C k 99 4 [true, true, true, true, true, true, false, true] [] (m + 1) [(3, V.ref 0), (6, V.int .u64 y1), (7, V.int
 .i64 y2)] [Ob.row 5 y3 y4 false] = T99l3 (orc C k) k m q0 q1 y1 y2 y3 y4 := by kernel_rfl
theorem E99l3 (y1 : Int) (y2 : Int) (y3 : Nat) (y4 : List V) {r : V} (h : T99l3 (orcE C) 0 0 0 0 y1 y2 y3 y4 = some r) : loopE C 99 4 [true, true, true, true, true, true, false, true] [] [(3, V.ref 0),
 (6, V.int .u64 y1), (7, V.int .i64 y2)] [Ob.row 5 y3 y4 false] = some r := ofL (j := 0) (F := fun s => T99l3 (orc C s.k) s.k s.m 0 0 y1 y2 y3 y4) (fs0 fun k m => e99l3 k m 0 0 y1 y2 y3 y4) (by
  unfold T99l3
  exact
    cF (cM ((cM ((cD0 gM ))))) (cD0 gK )) h

noncomputable def T104 (O : Orc) (k m q0 q1 : Nat) (y1 : Int) (y2 : Int) (y3 : Int) (y4 : Int) (y5 : Int) (y6 : Int) (y7 : Int) (y8 : Int) (y9 : Int) (y10 : Int) : Option V := need (O.R 0 103 [V.int
 .i64 y5, V.int .u64 6]) fun x1 => asTup (some x1) fun x2 => PI.asInt .i64 x2[0]? fun x3 => need (O.R 0 103 [V.int .i64 y5, V.int .u64 11]) fun x4 => asTup (some x4) fun x5 => PI.asInt .i64 x5[0]? fun
 x6 => need (O.R 0 103 [V.int .i64 y5, V.int .u64 25]) fun x7 => asTup (some x7) fun x8 => PI.asInt .i64 x8[0]? fun x9 => need (O.R 0 106 [V.int .i64 y5]) fun x10 => asTup (some x10) fun x11 =>
 PI.asInt .i64 x11[0]? fun x12 => need (O.R 0 103 [V.int .i64 y1, V.int .u64 2]) fun x13 => asTup (some x13) fun x14 => PI.asInt .i64 x14[0]? fun x15 => need (O.R 0 103 [V.int .i64 y1, V.int .u64 13])
 fun x16 => asTup (some x16) fun x17 => PI.asInt .i64 x17[0]? fun x18 => need (O.R 0 103 [V.int .i64 y1, V.int .u64 22]) fun x19 => asTup (some x19) fun x20 => PI.asInt .i64 x20[0]? fun x21 => some
 (V.tup [V.int .i64 ((IntKind.i64.wrap ((IntKind.i64.wrap (IntKind.i64.wrap (IntKind.i64.wrap (IntKind.i64.wrap (y8 + PI.bits IntKind.i64 (fun x1 x2 => x1 ^^^ x2) (PI.bits IntKind.i64 (fun x1 x2 => x1
 ^^^ x2) x3 x6) x9) + PI.bits IntKind.i64 (fun x1 x2 => x1 ^^^ x2) (PI.bits IntKind.i64 (fun x1 x2 => x1 &&& x2) y5 y6) (PI.bits IntKind.i64 (fun x1 x2 => x1 &&& x2) x12 y7)) + y10) + y9)).tmod
 4294967296 + (IntKind.i64.wrap (PI.bits IntKind.i64 (fun x1 x2 => x1 ^^^ x2) (PI.bits IntKind.i64 (fun x1 x2 => x1 ^^^ x2) x15 x18) x21 + PI.bits IntKind.i64 (fun x1 x2 => x1 ^^^ x2) (PI.bits
 IntKind.i64 (fun x1 x2 => x1 ^^^ x2) (PI.bits IntKind.i64 (fun x1 x2 => x1 &&& x2) y1 y2) (PI.bits IntKind.i64 (fun x1 x2 => x1 &&& x2) y1 y3)) (PI.bits IntKind.i64 (fun x1 x2 => x1 &&& x2) y2
 y3))).tmod 4294967296)).tmod 4294967296), V.int .i64 y1, V.int .i64 y2, V.int .i64 y3, V.int .i64 ((IntKind.i64.wrap (y4 + (IntKind.i64.wrap (IntKind.i64.wrap (IntKind.i64.wrap (IntKind.i64.wrap (y8 +
 PI.bits IntKind.i64 (fun x1 x2 => x1 ^^^ x2) (PI.bits IntKind.i64 (fun x1 x2 => x1 ^^^ x2) x3 x6) x9) + PI.bits IntKind.i64 (fun x1 x2 => x1 ^^^ x2) (PI.bits IntKind.i64 (fun x1 x2 => x1 &&& x2) y5
 y6) (PI.bits IntKind.i64 (fun x1 x2 => x1 &&& x2) x12 y7)) + y10) + y9)).tmod 4294967296)).tmod 4294967296), V.int .i64 y5, V.int .i64 y6, V.int .i64 y7])
theorem e104 (k m q0 q1 : Nat) (y1 : Int) (y2 : Int) (y3 : Int) (y4 : Int) (y5 : Int) (y6 : Int) (y7 : Int) (y8 : Int) (y9 : Int) (y10 : Int) : runV C (k + 1) 104 [V.agg [V.int .i64 y1, V.int .i64 y2,
 V.int .i64 y3, V.int .i64 y4, V.int .i64 y5, V.int .i64 y6, V.int .i64 y7, V.int .i64 y8], V.int .i64 y9, V.int .i64 y10] = T104 (orc C k) k m q0 q1 y1 y2 y3 y4 y5 y6 y7 y8 y9 y10 := by kernel_rfl
theorem E104 (y1 : Int) (y2 : Int) (y3 : Int) (y4 : Int) (y5 : Int) (y6 : Int) (y7 : Int) (y8 : Int) (y9 : Int) (y10 : Int) {r : V} (h : T104 (orcE C) 0 0 0 0 y1 y2 y3 y4 y5 y6 y7 y8 y9 y10 = some r) :
 runE C 104 [V.agg [V.int .i64 y1, V.int .i64 y2, V.int .i64 y3, V.int .i64 y4, V.int .i64 y5, V.int .i64 y6, V.int .i64 y7, V.int .i64 y8], V.int .i64 y9, V.int .i64 y10] = some r := ofR (F := fun s
 => T104 (orc C s.k) s.k s.m 0 0 y1 y2 y3 y4 y5 y6 y7 y8 y9 y10) (fun k => e104 k k 0 0 y1 y2 y3 y4 y5 y6 y7 y8 y9 y10) (by
  unfold T104
  exact
    cN cR (fun _ => cT (fun _ => cI (fun _ => cN cR (fun _ => cT (fun _ => cI (fun _ => cN cR (fun _ => cT (fun _ => cI (fun _ => cN cR (fun _ => cT (fun _ => cI (fun _ => cN cR (fun _ => cT (fun _ => cI
    (fun _ => cN cR (fun _ => cT (fun _ => cI (fun _ => cN cR (fun _ => cT (fun _ => cI (fun _ => cC)))))))))))))))))))))) h

noncomputable def T98l7 (O : Orc) (k m q0 q1 : Nat) (y1 : Nat) (y2 : List V) (y3 : Int) (y4 : Int) (y5 : List V) (y6 : List V) (y7 : List V) : Option V := bif decide (y4 < 8) then must (inB y4 8)
 (PI.asInt .i64 y6[0 + y4.toNat * 1]? fun x1 => must (inB y4 8) (PI.asInt .i64 y7[0 + y4.toNat * 1]? fun x2 => must (inB y4 8) (must ((V.int .i64 ((IntKind.i64.wrap (x1 + x2)).tmod 4294967296)).solid
 && true && (0 + y4.toNat * 1 + 1).ble y6.length && flatB C 130 [V.int .i64 ((IntKind.i64.wrap (x1 + x2)).tmod 4294967296)]) (O.L 0 98 8 [true, true, true, true, false, true, false, true, false, false,
 true, true, true, true, true, true] [q0] m [(3, V.ptr 0 0), (4, V.ptr 1 0), (5, V.sl y1 y2), (6, V.int .i64 y3), (14, V.ptr 2 0), (16, V.int .i64 (IntKind.i64.wrap (y4 + 1)))] [Ob.box 128 y5 false,
 Ob.box 130 (splice y6 (0 + y4.toNat * 1) [V.int .i64 ((IntKind.i64.wrap (x1 + x2)).tmod 4294967296)]) false, Ob.box 130 y7 false])))) else O.L 0 98 0 [true, true, true, true, false, true] [] q0 [(3,
 V.ptr 0 0), (4, V.ptr 1 0), (5, V.sl y1 y2), (6, V.int .i64 (IntKind.i64.wrap (y3 + 64)))] [Ob.box 128 y5 false, Ob.box 130 y6 false]
theorem e98l7 (k m q0 q1 : Nat) (y1 : Nat) (y2 : List V) (y3 : Int) (y4 : Int) (y5 : List V) (y6 : List V) (y7 : List V) : runL C k 98 8 [true, true, true, true, false, true, false, true, false, false,
 true, true, true, true, true, true] [q0] (m + 1) [(3, V.ptr 0 0), (4, V.ptr 1 0), (5, V.sl y1 y2), (6, V.int .i64 y3), (14, V.ptr 2 0), (16, V.int .i64 y4)] [Ob.box 128 y5 false, Ob.box 130 y6 false,
 Ob.box 130 y7 false] = T98l7 (orc C k) k m q0 q1 y1 y2 y3 y4 y5 y6 y7 := by kernel_rfl
theorem E98l7 (y1 : Nat) (y2 : List V) (y3 : Int) (y4 : Int) (y5 : List V) (y6 : List V) (y7 : List V) {r : V} (h : T98l7 (orcE C) 0 0 0 0 y1 y2 y3 y4 y5 y6 y7 = some r) : loopE C 98 8 [true, true,
 true, true, false, true, false, true, false, false, true, true, true, true, true, true] [0] [(3, V.ptr 0 0), (4, V.ptr 1 0), (5, V.sl y1 y2), (6, V.int .i64 y3), (14, V.ptr 2 0), (16, V.int .i64 y4)]
 [Ob.box 128 y5 false, Ob.box 130 y6 false, Ob.box 130 y7 false] = some r := ofL (j := 0) (F := fun s => T98l7 (orc C s.k) s.k s.m (s.fs.getD 0 0) 0 y1 y2 y3 y4 y5 y6 y7) (fs1 fun k m q0 => e98l7 k m
 q0 0 y1 y2 y3 y4 y5 y6 y7) (by
  unfold T98l7
  exact
    cF (cM ((cI (fun _ => cM ((cI (fun _ => cM ((cM ((cD1 gM (gF (i := 0) (by decide))))))))))))) (cD0 (gF (i := 0) (by decide)) )) h

noncomputable def T99l4 (O : Orc) (k m q0 q1 : Nat) (y1 : Nat) (y2 : List V) (y3 : List V) : Option V := bif decide ((↑y1 : Int) > 0) then PI.asInt .u32 y3[0]? fun x1 => PI.asInt .u32 y3[1]? fun x2 =>
 PI.asInt .u32 y3[2]? fun x3 => PI.asInt .u32 y3[3]? fun x4 => PI.asInt .u32 y3[4]? fun x5 => PI.asInt .u32 y3[5]? fun x6 => PI.asInt .u32 y3[6]? fun x7 => PI.asInt .u32 y3[7]? fun x8 => must (true &&
 decide (64 ≤ (↑y1 : Int))) (need (O.R 0 105 [V.agg [V.int .u32 x1, V.int .u32 x2, V.int .u32 x3, V.int .u32 x4, V.int .u32 x5, V.int .u32 x6, V.int .u32 x7, V.int .u32 x8], V.sl 64 (List.take 64
 (List.drop 0 y2))]) fun x9 => asTup (some x9) fun x10 => PI.asInt .u32 x10[0]? fun x11 => PI.asInt .u32 x10[1]? fun x12 => PI.asInt .u32 x10[2]? fun x13 => PI.asInt .u32 x10[3]? fun x14 => PI.asInt
 .u32 x10[4]? fun x15 => PI.asInt .u32 x10[5]? fun x16 => PI.asInt .u32 x10[6]? fun x17 => PI.asInt .u32 x10[7]? fun x18 => must ([V.int .u32 x11, V.int .u32 x12, V.int .u32 x13, V.int .u32 x14, V.int
 .u32 x15, V.int .u32 x16, V.int .u32 x17, V.int .u32 x18].length.beq 8 && true && (0 + [V.int .u32 x11, V.int .u32 x12, V.int .u32 x13, V.int .u32 x14, V.int .u32 x15, V.int .u32 x16, V.int .u32 x17,
 V.int .u32 x18].length).ble y3.length && flatB C 136 [V.int .u32 x11, V.int .u32 x12, V.int .u32 x13, V.int .u32 x14, V.int .u32 x15, V.int .u32 x16, V.int .u32 x17, V.int .u32 x18]) (must (true &&
 decide (64 ≤ (↑y1 : Int))) (O.L 0 99 6 [true, true, true, true, true, true, true, true, false] [] m [(3, V.sl (y1 - 64) (List.take ((y1 - 64) * 1) (List.drop 64 y2))), (8, V.ptr 0 0)] [Ob.box 136
 (splice y3 0 [V.int .u32 x11, V.int .u32 x12, V.int .u32 x13, V.int .u32 x14, V.int .u32 x15, V.int .u32 x16, V.int .u32 x17, V.int .u32 x18]) false]))) else PI.asInt .u32 y3[0]? fun x19 => PI.asInt
 .u32 y3[1]? fun x20 => PI.asInt .u32 y3[2]? fun x21 => PI.asInt .u32 y3[3]? fun x22 => PI.asInt .u32 y3[4]? fun x23 => PI.asInt .u32 y3[5]? fun x24 => PI.asInt .u32 y3[6]? fun x25 => PI.asInt .u32
 y3[7]? fun x26 => O.L 0 99 8 [true, true, true, true, true, true, true, true, true, true, false, true] [] k [(9, V.ref 0), (59, V.agg [V.int .u32 x19, V.int .u32 x20, V.int .u32 x21, V.int .u32 x22,
 V.int .u32 x23, V.int .u32 x24, V.int .u32 x25, V.int .u32 x26]), (60, V.int .i64 0)] [Ob.row 5 0 [] false]
theorem e99l4 (k m q0 q1 : Nat) (y1 : Nat) (y2 : List V) (y3 : List V) : runL C k 99 6 [true, true, true, true, true, true, true, true, false] [] (m + 1) [(3, V.ref 0), (8, V.ptr 1 0)] [Ob.row 5 y1 y2
 false, Ob.box 136 y3 false] = T99l4 (orc C k) k m q0 q1 y1 y2 y3 := by kernel_rfl
theorem E99l4 (y1 : Nat) (y2 : List V) (y3 : List V) {r : V} (h : T99l4 (orcE C) 0 0 0 0 y1 y2 y3 = some r) : loopE C 99 6 [true, true, true, true, true, true, true, true, false] [] [(3, V.ref 0), (8,
 V.ptr 1 0)] [Ob.row 5 y1 y2 false, Ob.box 136 y3 false] = some r := ofL (j := 0) (F := fun s => T99l4 (orc C s.k) s.k s.m 0 0 y1 y2 y3) (fs0 fun k m => e99l4 k m 0 0 y1 y2 y3) (by
  unfold T99l4
  exact
    cF (cI (fun _ => cI (fun _ => cI (fun _ => cI (fun _ => cI (fun _ => cI (fun _ => cI (fun _ => cI (fun _ => cM ((cN cR (fun _ => cT (fun _ => cI (fun _ => cI (fun _ => cI (fun _ => cI (fun _ => cI (fun
    _ => cI (fun _ => cI (fun _ => cI (fun _ => cM ((cM ((cD0 gM ))))))))))))))))))))))))) (cI (fun _ => cI (fun _ => cI (fun _ => cI (fun _ => cI (fun _ => cI (fun _ => cI (fun _ => cI (fun _ => cD0
    gK )))))))))) h

noncomputable def T106 (O : Orc) (k m q0 q1 : Nat) (y1 : Int) : Option V := some (V.tup [V.int .i64 (IntKind.i64.wrap (4294967295 - y1))])
theorem e106 (k m q0 q1 : Nat) (y1 : Int) : runV C (k + 1) 106 [V.int .i64 y1] = T106 (orc C k) k m q0 q1 y1 := by kernel_rfl
theorem E106 (y1 : Int) {r : V} (h : T106 (orcE C) 0 0 0 0 y1 = some r) : runE C 106 [V.int .i64 y1] = some r := ofR (F := fun s => T106 (orc C s.k) s.k s.m 0 0 y1) (fun k => e106 k k 0 0 y1) (by
  unfold T106
  exact
    cC) h

noncomputable def T105 (O : Orc) (k m q0 q1 : Nat) (y1 : Int) (y2 : Int) (y3 : Int) (y4 : Int) (y5 : Int) (y6 : Int) (y7 : Int) (y8 : Int) (y9 : Nat) (y10 : List V) : Option V := O.L 0 105 0 [true,
 true, false, true] [] k [(1, V.sl y9 y10), (2, V.ptr 0 0), (4, V.ptr 1 0), (5, V.ptr 2 0), (16, V.int .i64 0)] [Ob.box 136 [V.int .u32 y1, V.int .u32 y2, V.int .u32 y3, V.int .u32 y4, V.int .u32 y5,
 V.int .u32 y6, V.int .u32 y7, V.int .u32 y8] false, Ob.box 136 [V.int .u32 0, V.int .u32 0, V.int .u32 0, V.int .u32 0, V.int .u32 0, V.int .u32 0, V.int .u32 0, V.int .u32 0] false, Ob.box 138 [V.int
 .u32 0, V.int .u32 0, V.int .u32 0, V.int .u32 0, V.int .u32 0, V.int .u32 0, V.int .u32 0, V.int .u32 0, V.int .u32 0, V.int .u32 0, V.int .u32 0, V.int .u32 0, V.int .u32 0, V.int .u32 0, V.int .u32
 0, V.int .u32 0, V.int .u32 0, V.int .u32 0, V.int .u32 0, V.int .u32 0, V.int .u32 0, V.int .u32 0, V.int .u32 0, V.int .u32 0, V.int .u32 0, V.int .u32 0, V.int .u32 0, V.int .u32 0, V.int .u32 0,
 V.int .u32 0, V.int .u32 0, V.int .u32 0, V.int .u32 0, V.int .u32 0, V.int .u32 0, V.int .u32 0, V.int .u32 0, V.int .u32 0, V.int .u32 0, V.int .u32 0, V.int .u32 0, V.int .u32 0, V.int .u32 0,
 V.int .u32 0, V.int .u32 0, V.int .u32 0, V.int .u32 0, V.int .u32 0, V.int .u32 0, V.int .u32 0, V.int .u32 0, V.int .u32 0, V.int .u32 0, V.int .u32 0, V.int .u32 0, V.int .u32 0, V.int .u32 0,
 V.int .u32 0, V.int .u32 0, V.int .u32 0, V.int .u32 0, V.int .u32 0, V.int .u32 0, V.int .u32 0] false]
theorem e105 (k m q0 q1 : Nat) (y1 : Int) (y2 : Int) (y3 : Int) (y4 : Int) (y5 : Int) (y6 : Int) (y7 : Int) (y8 : Int) (y9 : Nat) (y10 : List V) : runV C (k + 1) 105 [V.agg [V.int .u32 y1, V.int .u32
 y2, V.int .u32 y3, V.int .u32 y4, V.int .u32 y5, V.int .u32 y6, V.int .u32 y7, V.int .u32 y8], V.sl y9 y10] = T105 (orc C k) k m q0 q1 y1 y2 y3 y4 y5 y6 y7 y8 y9 y10 := by kernel_rfl
theorem E105 (y1 : Int) (y2 : Int) (y3 : Int) (y4 : Int) (y5 : Int) (y6 : Int) (y7 : Int) (y8 : Int) (y9 : Nat) (y10 : List V) {r : V} (h : T105 (orcE C) 0 0 0 0 y1 y2 y3 y4 y5 y6 y7 y8 y9 y10 = some
 r) : runE C 105 [V.agg [V.int .u32 y1, V.int .u32 y2, V.int .u32 y3, V.int .u32 y4, V.int .u32 y5, V.int .u32 y6, V.int .u32 y7, V.int .u32 y8], V.sl y9 y10] = some r := ofR (F := fun s => T105 (orc C
 s.k) s.k s.m 0 0 y1 y2 y3 y4 y5 y6 y7 y8 y9 y10) (fun k => e105 k k 0 0 y1 y2 y3 y4 y5 y6 y7 y8 y9 y10) (by
  unfold T105
  exact
    cD0 gK ) h

noncomputable def T99l5 (O : Orc) (k m q0 q1 : Nat) (y1 : Nat) (y2 : List V) (y3 : List V) : Option V := bif decide ((↑y1 : Int) > 0) then PI.asInt .u32 y3[0]? fun x1 => PI.asInt .u32 y3[1]? fun x2 =>
 PI.asInt .u32 y3[2]? fun x3 => PI.asInt .u32 y3[3]? fun x4 => PI.asInt .u32 y3[4]? fun x5 => PI.asInt .u32 y3[5]? fun x6 => PI.asInt .u32 y3[6]? fun x7 => PI.asInt .u32 y3[7]? fun x8 => must (true &&
 decide (64 ≤ (↑y1 : Int))) (need (O.R 0 105 [V.agg [V.int .u32 x1, V.int .u32 x2, V.int .u32 x3, V.int .u32 x4, V.int .u32 x5, V.int .u32 x6, V.int .u32 x7, V.int .u32 x8], V.sl 64 (List.take 64
 (List.drop 0 y2))]) fun x9 => asTup (some x9) fun x10 => PI.asInt .u32 x10[0]? fun x11 => PI.asInt .u32 x10[1]? fun x12 => PI.asInt .u32 x10[2]? fun x13 => PI.asInt .u32 x10[3]? fun x14 => PI.asInt
 .u32 x10[4]? fun x15 => PI.asInt .u32 x10[5]? fun x16 => PI.asInt .u32 x10[6]? fun x17 => PI.asInt .u32 x10[7]? fun x18 => must ([V.int .u32 x11, V.int .u32 x12, V.int .u32 x13, V.int .u32 x14, V.int
 .u32 x15, V.int .u32 x16, V.int .u32 x17, V.int .u32 x18].length.beq 8 && true && (0 + [V.int .u32 x11, V.int .u32 x12, V.int .u32 x13, V.int .u32 x14, V.int .u32 x15, V.int .u32 x16, V.int .u32 x17,
 V.int .u32 x18].length).ble y3.length && flatB C 136 [V.int .u32 x11, V.int .u32 x12, V.int .u32 x13, V.int .u32 x14, V.int .u32 x15, V.int .u32 x16, V.int .u32 x17, V.int .u32 x18]) (must (true &&
 decide (64 ≤ (↑y1 : Int))) (O.L 0 99 6 [true, true, true, true, true, true, true, true, false] [] m [(3, V.sl (y1 - 64) (List.take ((y1 - 64) * 1) (List.drop 64 y2))), (8, V.ptr 0 0)] [Ob.box 136
 (splice y3 0 [V.int .u32 x11, V.int .u32 x12, V.int .u32 x13, V.int .u32 x14, V.int .u32 x15, V.int .u32 x16, V.int .u32 x17, V.int .u32 x18]) false]))) else PI.asInt .u32 y3[0]? fun x19 => PI.asInt
 .u32 y3[1]? fun x20 => PI.asInt .u32 y3[2]? fun x21 => PI.asInt .u32 y3[3]? fun x22 => PI.asInt .u32 y3[4]? fun x23 => PI.asInt .u32 y3[5]? fun x24 => PI.asInt .u32 y3[6]? fun x25 => PI.asInt .u32
 y3[7]? fun x26 => O.L 0 99 8 [true, true, true, true, true, true, true, true, true, true, false, true] [] k [(9, V.ref 0), (59, V.agg [V.int .u32 x19, V.int .u32 x20, V.int .u32 x21, V.int .u32 x22,
 V.int .u32 x23, V.int .u32 x24, V.int .u32 x25, V.int .u32 x26]), (60, V.int .i64 0)] [Ob.row 5 0 [] false]
theorem e99l5 (k m q0 q1 : Nat) (y1 : Nat) (y2 : List V) (y3 : List V) : runL C k 99 6 [true, true, true, true, true, true, true, true, false] [] (m + 1) [(3, V.sl y1 y2), (8, V.ptr 0 0)] [Ob.box 136
 y3 false] = T99l5 (orc C k) k m q0 q1 y1 y2 y3 := by kernel_rfl
theorem E99l5 (y1 : Nat) (y2 : List V) (y3 : List V) {r : V} (h : T99l5 (orcE C) 0 0 0 0 y1 y2 y3 = some r) : loopE C 99 6 [true, true, true, true, true, true, true, true, false] [] [(3, V.sl y1 y2),
 (8, V.ptr 0 0)] [Ob.box 136 y3 false] = some r := ofL (j := 0) (F := fun s => T99l5 (orc C s.k) s.k s.m 0 0 y1 y2 y3) (fs0 fun k m => e99l5 k m 0 0 y1 y2 y3) (by
  unfold T99l5
  exact
    cF (cI (fun _ => cI (fun _ => cI (fun _ => cI (fun _ => cI (fun _ => cI (fun _ => cI (fun _ => cI (fun _ => cM ((cN cR (fun _ => cT (fun _ => cI (fun _ => cI (fun _ => cI (fun _ => cI (fun _ => cI (fun
    _ => cI (fun _ => cI (fun _ => cI (fun _ => cM ((cM ((cD0 gM ))))))))))))))))))))))))) (cI (fun _ => cI (fun _ => cI (fun _ => cI (fun _ => cI (fun _ => cI (fun _ => cI (fun _ => cI (fun _ => cD0
    gK )))))))))) h

noncomputable def T99l6 (O : Orc) (k m q0 q1 : Nat) (y1 : Int) (y2 : Int) (y3 : Int) (y4 : Int) (y5 : Int) (y6 : Int) (y7 : Int) (y8 : Int) (y9 : Int) (y10 : Nat) (y11 : List V) : Option V := bif
 decide (y9 < 8) then must (inB y9 8) (PI.asInt .u32 [V.int .u32 y1, V.int .u32 y2, V.int .u32 y3, V.int .u32 y4, V.int .u32 y5, V.int .u32 y6, V.int .u32 y7, V.int .u32 y8][y9.toNat * 1]? fun x1 =>
 must (true && (y10 + 4).ble 140737488355328 && ((y10 + 4) * 1).ble 140737488355328) (O.L 0 99 8 [true, true, true, true, true, true, true, true, true, true, false, true] [] m [(9, V.ref 0), (59, V.agg
 [V.int .u32 y1, V.int .u32 y2, V.int .u32 y3, V.int .u32 y4, V.int .u32 y5, V.int .u32 y6, V.int .u32 y7, V.int .u32 y8]), (60, V.int .i64 (IntKind.i64.wrap (y9 + 1)))] [Ob.row 5 (y10 + 4) (y11 ++
 [V.int .u8 (IntKind.u8.wrap (x1.fdiv 16777216)), V.int .u8 (IntKind.u8.wrap (x1.fdiv 65536)), V.int .u8 (IntKind.u8.wrap (x1.fdiv 256)), V.int .u8 (IntKind.u8.wrap x1)]) false])) else some (V.tup
 [V.sl y10 y11])
theorem e99l6 (k m q0 q1 : Nat) (y1 : Int) (y2 : Int) (y3 : Int) (y4 : Int) (y5 : Int) (y6 : Int) (y7 : Int) (y8 : Int) (y9 : Int) (y10 : Nat) (y11 : List V) : runL C k 99 8 [true, true, true, true,
 true, true, true, true, true, true, false, true] [] (m + 1) [(9, V.ref 0), (59, V.agg [V.int .u32 y1, V.int .u32 y2, V.int .u32 y3, V.int .u32 y4, V.int .u32 y5, V.int .u32 y6, V.int .u32 y7, V.int
 .u32 y8]), (60, V.int .i64 y9)] [Ob.row 5 y10 y11 false] = T99l6 (orc C k) k m q0 q1 y1 y2 y3 y4 y5 y6 y7 y8 y9 y10 y11 := by kernel_rfl
theorem E99l6 (y1 : Int) (y2 : Int) (y3 : Int) (y4 : Int) (y5 : Int) (y6 : Int) (y7 : Int) (y8 : Int) (y9 : Int) (y10 : Nat) (y11 : List V) {r : V} (h : T99l6 (orcE C) 0 0 0 0 y1 y2 y3 y4 y5 y6 y7 y8
 y9 y10 y11 = some r) : loopE C 99 8 [true, true, true, true, true, true, true, true, true, true, false, true] [] [(9, V.ref 0), (59, V.agg [V.int .u32 y1, V.int .u32 y2, V.int .u32 y3, V.int .u32 y4,
 V.int .u32 y5, V.int .u32 y6, V.int .u32 y7, V.int .u32 y8]), (60, V.int .i64 y9)] [Ob.row 5 y10 y11 false] = some r := ofL (j := 0) (F := fun s => T99l6 (orc C s.k) s.k s.m 0 0 y1 y2 y3 y4 y5 y6 y7
 y8 y9 y10 y11) (fs0 fun k m => e99l6 k m 0 0 y1 y2 y3 y4 y5 y6 y7 y8 y9 y10 y11) (by
  unfold T99l6
  exact
    cF (cM ((cI (fun _ => cM ((cD0 gM )))))) (cC)) h

noncomputable def T105l1 (O : Orc) (k m q0 q1 : Nat) (y1 : Nat) (y2 : List V) (y3 : Int) (y4 : List V) (y5 : List V) (y6 : List V) : Option V := bif decide (y3 < 64) then bif decide (y3 < 16) then must
 (inB (IntKind.i64.wrap (4 * y3)) y1) (PI.asInt .u8 y2[(IntKind.i64.wrap (4 * y3)).toNat * 1]? fun x1 => must (inB (IntKind.i64.wrap (IntKind.i64.wrap (4 * y3) + 1)) y1) (PI.asInt .u8
 y2[(IntKind.i64.wrap (IntKind.i64.wrap (4 * y3) + 1)).toNat * 1]? fun x2 => must (inB (IntKind.i64.wrap (IntKind.i64.wrap (4 * y3) + 2)) y1) (PI.asInt .u8 y2[(IntKind.i64.wrap (IntKind.i64.wrap (4 *
 y3) + 2)).toNat * 1]? fun x3 => must (inB (IntKind.i64.wrap (IntKind.i64.wrap (4 * y3) + 3)) y1) (PI.asInt .u8 y2[(IntKind.i64.wrap (IntKind.i64.wrap (4 * y3) + 3)).toNat * 1]? fun x4 => must (inB y3
 64) (must ((V.int .u32 (PI.bits IntKind.u32 (fun x1 x2 => x1 ||| x2) (PI.bits IntKind.u32 (fun x1 x2 => x1 ||| x2) (PI.bits IntKind.u32 (fun x1 x2 => x1 ||| x2) (IntKind.u32.wrap (IntKind.u32.wrap x1
 * 16777216)) (IntKind.u32.wrap (IntKind.u32.wrap x2 * 65536))) (IntKind.u32.wrap (IntKind.u32.wrap x3 * 256))) (IntKind.u32.wrap x4))).solid && true && (0 + y3.toNat * 1 + 1).ble y6.length && flatB C
 138 [V.int .u32 (PI.bits IntKind.u32 (fun x1 x2 => x1 ||| x2) (PI.bits IntKind.u32 (fun x1 x2 => x1 ||| x2) (PI.bits IntKind.u32 (fun x1 x2 => x1 ||| x2) (IntKind.u32.wrap (IntKind.u32.wrap x1 *
 16777216)) (IntKind.u32.wrap (IntKind.u32.wrap x2 * 65536))) (IntKind.u32.wrap (IntKind.u32.wrap x3 * 256))) (IntKind.u32.wrap x4))]) (O.L 0 105 0 [true, true, false, true] [] m [(1, V.sl y1 y2), (2,
 V.ptr 0 0), (4, V.ptr 1 0), (5, V.ptr 2 0), (16, V.int .i64 (IntKind.i64.wrap (y3 + 1)))] [Ob.box 136 y4 false, Ob.box 136 y5 false, Ob.box 138 (splice y6 (0 + y3.toNat * 1) [V.int .u32 (PI.bits
 IntKind.u32 (fun x1 x2 => x1 ||| x2) (PI.bits IntKind.u32 (fun x1 x2 => x1 ||| x2) (PI.bits IntKind.u32 (fun x1 x2 => x1 ||| x2) (IntKind.u32.wrap (IntKind.u32.wrap x1 * 16777216)) (IntKind.u32.wrap
 (IntKind.u32.wrap x2 * 65536))) (IntKind.u32.wrap (IntKind.u32.wrap x3 * 256))) (IntKind.u32.wrap x4))]) false])))))) else must (inB (IntKind.i64.wrap (y3 - 15)) 64) (PI.asInt .u32 y6[0 +
 (IntKind.i64.wrap (y3 - 15)).toNat * 1]? fun x5 => must (inB (IntKind.i64.wrap (y3 - 2)) 64) (PI.asInt .u32 y6[0 + (IntKind.i64.wrap (y3 - 2)).toNat * 1]? fun x6 => need (O.R 0 107 [V.int .u32 x5,
 V.int .i64 (-7)]) fun x7 => asTup (some x7) fun x8 => PI.asInt .u32 x8[0]? fun x9 => need (O.R 0 107 [V.int .u32 x5, V.int .i64 (-18)]) fun x10 => asTup (some x10) fun x11 => PI.asInt .u32 x11[0]? fun
 x12 => need (O.R 0 107 [V.int .u32 x6, V.int .i64 (-17)]) fun x13 => asTup (some x13) fun x14 => PI.asInt .u32 x14[0]? fun x15 => need (O.R 0 107 [V.int .u32 x6, V.int .i64 (-19)]) fun x16 => asTup
 (some x16) fun x17 => PI.asInt .u32 x17[0]? fun x18 => must (inB (IntKind.i64.wrap (y3 - 7)) 64) (PI.asInt .u32 y6[0 + (IntKind.i64.wrap (y3 - 7)).toNat * 1]? fun x19 => must (inB (IntKind.i64.wrap
 (y3 - 16)) 64) (PI.asInt .u32 y6[0 + (IntKind.i64.wrap (y3 - 16)).toNat * 1]? fun x20 => must (inB y3 64) (must ((V.int .u32 (IntKind.u32.wrap (IntKind.u32.wrap (IntKind.u32.wrap (PI.bits IntKind.u32
 (fun x1 x2 => x1 ^^^ x2) (PI.bits IntKind.u32 (fun x1 x2 => x1 ^^^ x2) x15 x18) (x6.fdiv 1024) + x19) + PI.bits IntKind.u32 (fun x1 x2 => x1 ^^^ x2) (PI.bits IntKind.u32 (fun x1 x2 => x1 ^^^ x2) x9
 x12) (x5.fdiv 8)) + x20))).solid && true && (0 + y3.toNat * 1 + 1).ble y6.length && flatB C 138 [V.int .u32 (IntKind.u32.wrap (IntKind.u32.wrap (IntKind.u32.wrap (PI.bits IntKind.u32 (fun x1 x2 => x1
 ^^^ x2) (PI.bits IntKind.u32 (fun x1 x2 => x1 ^^^ x2) x15 x18) (x6.fdiv 1024) + x19) + PI.bits IntKind.u32 (fun x1 x2 => x1 ^^^ x2) (PI.bits IntKind.u32 (fun x1 x2 => x1 ^^^ x2) x9 x12) (x5.fdiv 8)) +
 x20))]) (O.L 0 105 0 [true, true, false, true] [] m [(1, V.sl y1 y2), (2, V.ptr 0 0), (4, V.ptr 1 0), (5, V.ptr 2 0), (16, V.int .i64 (IntKind.i64.wrap (y3 + 1)))] [Ob.box 136 y4 false, Ob.box 136 y5
 false, Ob.box 138 (splice y6 (0 + y3.toNat * 1) [V.int .u32 (IntKind.u32.wrap (IntKind.u32.wrap (IntKind.u32.wrap (PI.bits IntKind.u32 (fun x1 x2 => x1 ^^^ x2) (PI.bits IntKind.u32 (fun x1 x2 => x1
 ^^^ x2) x15 x18) (x6.fdiv 1024) + x19) + PI.bits IntKind.u32 (fun x1 x2 => x1 ^^^ x2) (PI.bits IntKind.u32 (fun x1 x2 => x1 ^^^ x2) x9 x12) (x5.fdiv 8)) + x20))]) false])))))) else PI.asInt .u32
 y4[0]? fun x21 => PI.asInt .u32 y4[1]? fun x22 => PI.asInt .u32 y4[2]? fun x23 => PI.asInt .u32 y4[3]? fun x24 => PI.asInt .u32 y4[4]? fun x25 => PI.asInt .u32 y4[5]? fun x26 => PI.asInt .u32 y4[6]?
 fun x27 => PI.asInt .u32 y4[7]? fun x28 => need (O.R 0 108 []) fun x29 => PI.asAgg (some x29) fun x30 => O.L 0 105 2 [true, true, true, true, false, true] [] k [(2, V.ptr 0 0), (4, V.ptr 1 0), (5,
 V.ptr 2 0), (11, V.ptr 3 0), (97, V.agg (renV.renL [] x30)), (98, V.int .i64 0)] [Ob.box 136 y4 false, Ob.box 136 y5 false, Ob.box 138 y6 false, Ob.box 136 [V.int .u32 x21, V.int .u32 x22, V.int .u32
 x23, V.int .u32 x24, V.int .u32 x25, V.int .u32 x26, V.int .u32 x27, V.int .u32 x28] false]
theorem e105l1 (k m q0 q1 : Nat) (y1 : Nat) (y2 : List V) (y3 : Int) (y4 : List V) (y5 : List V) (y6 : List V) : runL C k 105 0 [true, true, false, true] [] (m + 1) [(1, V.sl y1 y2), (2, V.ptr 0 0),
 (4, V.ptr 1 0), (5, V.ptr 2 0), (16, V.int .i64 y3)] [Ob.box 136 y4 false, Ob.box 136 y5 false, Ob.box 138 y6 false] = T105l1 (orc C k) k m q0 q1 y1 y2 y3 y4 y5 y6 := by kernel_rfl
theorem E105l1 (y1 : Nat) (y2 : List V) (y3 : Int) (y4 : List V) (y5 : List V) (y6 : List V) {r : V} (h : T105l1 (orcE C) 0 0 0 0 y1 y2 y3 y4 y5 y6 = some r) : loopE C 105 0 [true, true, false, true]
 [] [(1, V.sl y1 y2), (2, V.ptr 0 0), (4, V.ptr 1 0), (5, V.ptr 2 0), (16, V.int .i64 y3)] [Ob.box 136 y4 false, Ob.box 136 y5 false, Ob.box 138 y6 false] = some r := ofL (j := 0) (F := fun s => T105l1
 (orc C s.k) s.k s.m 0 0 y1 y2 y3 y4 y5 y6) (fs0 fun k m => e105l1 k m 0 0 y1 y2 y3 y4 y5 y6) (by
  unfold T105l1
  exact
    cF (cF (cM ((cI (fun _ => cM ((cI (fun _ => cM ((cI (fun _ => cM ((cI (fun _ => cM ((cM ((cD0 gM ))))))))))))))))) (cM ((cI (fun _ => cM ((cI (fun _ => cN cR (fun _ => cT (fun _ => cI (fun _ => cN cR
    (fun _ => cT (fun _ => cI (fun _ => cN cR (fun _ => cT (fun _ => cI (fun _ => cN cR (fun _ => cT (fun _ => cI (fun _ => cM ((cI (fun _ => cM ((cI (fun _ => cM ((cM ((cD0 gM
    )))))))))))))))))))))))))))))) (cI (fun _ => cI (fun _ => cI (fun _ => cI (fun _ => cI (fun _ => cI (fun _ => cI (fun _ => cI (fun _ => cN cR (fun _ => cA (fun _ => cD0 gK )))))))))))) h

noncomputable def T107 (O : Orc) (k m q0 q1 : Nat) (y1 : Int) (y2 : Int) : Option V := must (decide (0 ≤ IntKind.u64.wrap (32 - PI.bits IntKind.u64 (fun x1 x2 => x1 &&& x2) (IntKind.u64.wrap y2) 31)))
 (some (V.tup [V.int .u32 (PI.bits IntKind.u32 (fun x1 x2 => x1 ||| x2) (IntKind.u32.wrap (y1 * 2 ^ min (PI.bits IntKind.u64 (fun x1 x2 => x1 &&& x2) (IntKind.u64.wrap y2) 31).toNat 32)) (y1.fdiv (2 ^
 min (IntKind.u64.wrap (32 - PI.bits IntKind.u64 (fun x1 x2 => x1 &&& x2) (IntKind.u64.wrap y2) 31)).toNat 32)))]))
theorem e107 (k m q0 q1 : Nat) (y1 : Int) (y2 : Int) : runV C (k + 1) 107 [V.int .u32 y1, V.int .i64 y2] = T107 (orc C k) k m q0 q1 y1 y2 := by kernel_rfl
theorem E107 (y1 : Int) (y2 : Int) {r : V} (h : T107 (orcE C) 0 0 0 0 y1 y2 = some r) : runE C 107 [V.int .u32 y1, V.int .i64 y2] = some r := ofR (F := fun s => T107 (orc C s.k) s.k s.m 0 0 y1 y2) (fun
 k => e107 k k 0 0 y1 y2) (by
  unfold T107
  exact
    cM ((cC))) h

noncomputable def T108 (O : Orc) (k m q0 q1 : Nat)  : Option V := some (V.agg [V.int .u32 1116352408, V.int .u32 1899447441, V.int .u32 3049323471, V.int .u32 3921009573, V.int .u32 961987163, V.int
 .u32 1508970993, V.int .u32 2453635748, V.int .u32 2870763221, V.int .u32 3624381080, V.int .u32 310598401, V.int .u32 607225278, V.int .u32 1426881987, V.int .u32 1925078388, V.int .u32 2162078206,
 V.int .u32 2614888103, V.int .u32 3248222580, V.int .u32 3835390401, V.int .u32 4022224774, V.int .u32 264347078, V.int .u32 604807628, V.int .u32 770255983, V.int .u32 1249150122, V.int .u32
 1555081692, V.int .u32 1996064986, V.int .u32 2554220882, V.int .u32 2821834349, V.int .u32 2952996808, V.int .u32 3210313671, V.int .u32 3336571891, V.int .u32 3584528711, V.int .u32 113926993, V.int
 .u32 338241895, V.int .u32 666307205, V.int .u32 773529912, V.int .u32 1294757372, V.int .u32 1396182291, V.int .u32 1695183700, V.int .u32 1986661051, V.int .u32 2177026350, V.int .u32 2456956037,
 V.int .u32 2730485921, V.int .u32 2820302411, V.int .u32 3259730800, V.int .u32 3345764771, V.int .u32 3516065817, V.int .u32 3600352804, V.int .u32 4094571909, V.int .u32 275423344, V.int .u32
 430227734, V.int .u32 506948616, V.int .u32 659060556, V.int .u32 883997877, V.int .u32 958139571, V.int .u32 1322822218, V.int .u32 1537002063, V.int .u32 1747873779, V.int .u32 1955562222, V.int
 .u32 2024104815, V.int .u32 2227730452, V.int .u32 2361852424, V.int .u32 2428436474, V.int .u32 2756734187, V.int .u32 3204031479, V.int .u32 3329325298])
theorem e108 (k m q0 q1 : Nat)  : runV C (k + 1) 108 [] = T108 (orc C k) k m q0 q1  := by kernel_rfl
theorem E108  {r : V} (h : T108 (orcE C) 0 0 0 0  = some r) : runE C 108 [] = some r := ofR (F := fun s => T108 (orc C s.k) s.k s.m 0 0 ) (fun k => e108 k k 0 0 ) (by
  unfold T108
  exact
    cC) h

noncomputable def T105l2 (O : Orc) (k m q0 q1 : Nat) (y1 : List V) (y2 : Int) (y3 : List V) (y4 : List V) (y5 : List V) (y6 : List V) : Option V := bif decide (y2 < 64) then must (inB y2 64) (PI.asInt
 .u32 y1[y2.toNat * 1]? fun x1 => PI.asInt .u32 y6[0]? fun x2 => PI.asInt .u32 y6[1]? fun x3 => PI.asInt .u32 y6[2]? fun x4 => PI.asInt .u32 y6[3]? fun x5 => PI.asInt .u32 y6[4]? fun x6 => PI.asInt
 .u32 y6[5]? fun x7 => PI.asInt .u32 y6[6]? fun x8 => PI.asInt .u32 y6[7]? fun x9 => must (inB y2 64) (PI.asInt .u32 y5[0 + y2.toNat * 1]? fun x10 => need (O.R 0 109 [V.agg [V.int .u32 x2, V.int .u32
 x3, V.int .u32 x4, V.int .u32 x5, V.int .u32 x6, V.int .u32 x7, V.int .u32 x8, V.int .u32 x9], V.int .u32 x10, V.int .u32 x1]) fun x11 => asTup (some x11) fun x12 => PI.asInt .u32 x12[0]? fun x13 =>
 PI.asInt .u32 x12[1]? fun x14 => PI.asInt .u32 x12[2]? fun x15 => PI.asInt .u32 x12[3]? fun x16 => PI.asInt .u32 x12[4]? fun x17 => PI.asInt .u32 x12[5]? fun x18 => PI.asInt .u32 x12[6]? fun x19 =>
 PI.asInt .u32 x12[7]? fun x20 => must ([V.int .u32 x13, V.int .u32 x14, V.int .u32 x15, V.int .u32 x16, V.int .u32 x17, V.int .u32 x18, V.int .u32 x19, V.int .u32 x20].length.beq 8 && true && (0 +
 [V.int .u32 x13, V.int .u32 x14, V.int .u32 x15, V.int .u32 x16, V.int .u32 x17, V.int .u32 x18, V.int .u32 x19, V.int .u32 x20].length).ble y6.length && flatB C 136 [V.int .u32 x13, V.int .u32 x14,
 V.int .u32 x15, V.int .u32 x16, V.int .u32 x17, V.int .u32 x18, V.int .u32 x19, V.int .u32 x20]) (O.L 0 105 2 [true, true, true, true, false, true] [] m [(2, V.ptr 0 0), (4, V.ptr 1 0), (5, V.ptr 2
 0), (11, V.ptr 3 0), (97, V.agg (renV.renL [] y1)), (98, V.int .i64 (IntKind.i64.wrap (y2 + 1)))] [Ob.box 136 y3 false, Ob.box 136 y4 false, Ob.box 138 y5 false, Ob.box 136 (splice y6 0 [V.int .u32
 x13, V.int .u32 x14, V.int .u32 x15, V.int .u32 x16, V.int .u32 x17, V.int .u32 x18, V.int .u32 x19, V.int .u32 x20]) false]))) else O.L 0 105 4 [true, true, true, true, true, false, true] [] k [(2,
 V.ptr 0 0), (4, V.ptr 1 0), (11, V.ptr 2 0), (109, V.int .i64 0)] [Ob.box 136 y3 false, Ob.box 136 y4 false, Ob.box 136 y6 false]
theorem e105l2 (k m q0 q1 : Nat) (y1 : List V) (y2 : Int) (y3 : List V) (y4 : List V) (y5 : List V) (y6 : List V) : runL C k 105 2 [true, true, true, true, false, true] [] (m + 1) [(2, V.ptr 0 0), (4,
 V.ptr 1 0), (5, V.ptr 2 0), (11, V.ptr 3 0), (97, V.agg y1), (98, V.int .i64 y2)] [Ob.box 136 y3 false, Ob.box 136 y4 false, Ob.box 138 y5 false, Ob.box 136 y6 false] = T105l2 (orc C k) k m q0 q1 y1
 y2 y3 y4 y5 y6 := by kernel_rfl
theorem E105l2 (y1 : List V) (y2 : Int) (y3 : List V) (y4 : List V) (y5 : List V) (y6 : List V) {r : V} (h : T105l2 (orcE C) 0 0 0 0 y1 y2 y3 y4 y5 y6 = some r) : loopE C 105 2 [true, true, true, true,
 false, true] [] [(2, V.ptr 0 0), (4, V.ptr 1 0), (5, V.ptr 2 0), (11, V.ptr 3 0), (97, V.agg y1), (98, V.int .i64 y2)] [Ob.box 136 y3 false, Ob.box 136 y4 false, Ob.box 138 y5 false, Ob.box 136 y6
 false] = some r := ofL (j := 0) (F := fun s => T105l2 (orc C s.k) s.k s.m 0 0 y1 y2 y3 y4 y5 y6) (fs0 fun k m => e105l2 k m 0 0 y1 y2 y3 y4 y5 y6) (by
  unfold T105l2
  exact
    cF (cM ((cI (fun _ => cI (fun _ => cI (fun _ => cI (fun _ => cI (fun _ => cI (fun _ => cI (fun _ => cI (fun _ => cI (fun _ => cM ((cI (fun _ => cN cR (fun _ => cT (fun _ => cI (fun _ => cI (fun _ => cI
    (fun _ => cI (fun _ => cI (fun _ => cI (fun _ => cI (fun _ => cI (fun _ => cM ((cD0 gM ))))))))))))))))))))))))))) (cD0 gK )) h

noncomputable def T109 (O : Orc) (k m q0 q1 : Nat) (y1 : Int) (y2 : Int) (y3 : Int) (y4 : Int) (y5 : Int) (y6 : Int) (y7 : Int) (y8 : Int) (y9 : Int) (y10 : Int) : Option V := need (O.R 0 110 [V.int
 .u32 y5, V.int .i64 6]) fun x1 => asTup (some x1) fun x2 => PI.asInt .u32 x2[0]? fun x3 => need (O.R 0 110 [V.int .u32 y5, V.int .i64 11]) fun x4 => asTup (some x4) fun x5 => PI.asInt .u32 x5[0]? fun
 x6 => need (O.R 0 110 [V.int .u32 y5, V.int .i64 25]) fun x7 => asTup (some x7) fun x8 => PI.asInt .u32 x8[0]? fun x9 => need (O.R 0 110 [V.int .u32 y1, V.int .i64 2]) fun x10 => asTup (some x10) fun
 x11 => PI.asInt .u32 x11[0]? fun x12 => need (O.R 0 110 [V.int .u32 y1, V.int .i64 13]) fun x13 => asTup (some x13) fun x14 => PI.asInt .u32 x14[0]? fun x15 => need (O.R 0 110 [V.int .u32 y1, V.int
 .i64 22]) fun x16 => asTup (some x16) fun x17 => PI.asInt .u32 x17[0]? fun x18 => some (V.tup [V.int .u32 (IntKind.u32.wrap (IntKind.u32.wrap (IntKind.u32.wrap (IntKind.u32.wrap (IntKind.u32.wrap (y8
 + PI.bits IntKind.u32 (fun x1 x2 => x1 ^^^ x2) (PI.bits IntKind.u32 (fun x1 x2 => x1 ^^^ x2) x3 x6) x9) + PI.bits IntKind.u32 (fun x1 x2 => x1 ^^^ x2) (PI.bits IntKind.u32 (fun x1 x2 => x1 &&& x2) y5
 y6) (PI.bits IntKind.u32 (fun x1 x2 => x1 &&& x2) (PI.bits IntKind.u32 (fun x1 x2 => x1 ^^^ x2) 4294967295 y5) y7)) + y10) + y9) + IntKind.u32.wrap (PI.bits IntKind.u32 (fun x1 x2 => x1 ^^^ x2)
 (PI.bits IntKind.u32 (fun x1 x2 => x1 ^^^ x2) x12 x15) x18 + PI.bits IntKind.u32 (fun x1 x2 => x1 ^^^ x2) (PI.bits IntKind.u32 (fun x1 x2 => x1 ^^^ x2) (PI.bits IntKind.u32 (fun x1 x2 => x1 &&& x2) y1
 y2) (PI.bits IntKind.u32 (fun x1 x2 => x1 &&& x2) y1 y3)) (PI.bits IntKind.u32 (fun x1 x2 => x1 &&& x2) y2 y3)))), V.int .u32 y1, V.int .u32 y2, V.int .u32 y3, V.int .u32 (IntKind.u32.wrap (y4 +
 IntKind.u32.wrap (IntKind.u32.wrap (IntKind.u32.wrap (IntKind.u32.wrap (y8 + PI.bits IntKind.u32 (fun x1 x2 => x1 ^^^ x2) (PI.bits IntKind.u32 (fun x1 x2 => x1 ^^^ x2) x3 x6) x9) + PI.bits IntKind.u32
 (fun x1 x2 => x1 ^^^ x2) (PI.bits IntKind.u32 (fun x1 x2 => x1 &&& x2) y5 y6) (PI.bits IntKind.u32 (fun x1 x2 => x1 &&& x2) (PI.bits IntKind.u32 (fun x1 x2 => x1 ^^^ x2) 4294967295 y5) y7)) + y10) +
 y9))), V.int .u32 y5, V.int .u32 y6, V.int .u32 y7])
theorem e109 (k m q0 q1 : Nat) (y1 : Int) (y2 : Int) (y3 : Int) (y4 : Int) (y5 : Int) (y6 : Int) (y7 : Int) (y8 : Int) (y9 : Int) (y10 : Int) : runV C (k + 1) 109 [V.agg [V.int .u32 y1, V.int .u32 y2,
 V.int .u32 y3, V.int .u32 y4, V.int .u32 y5, V.int .u32 y6, V.int .u32 y7, V.int .u32 y8], V.int .u32 y9, V.int .u32 y10] = T109 (orc C k) k m q0 q1 y1 y2 y3 y4 y5 y6 y7 y8 y9 y10 := by kernel_rfl
theorem E109 (y1 : Int) (y2 : Int) (y3 : Int) (y4 : Int) (y5 : Int) (y6 : Int) (y7 : Int) (y8 : Int) (y9 : Int) (y10 : Int) {r : V} (h : T109 (orcE C) 0 0 0 0 y1 y2 y3 y4 y5 y6 y7 y8 y9 y10 = some r) :
 runE C 109 [V.agg [V.int .u32 y1, V.int .u32 y2, V.int .u32 y3, V.int .u32 y4, V.int .u32 y5, V.int .u32 y6, V.int .u32 y7, V.int .u32 y8], V.int .u32 y9, V.int .u32 y10] = some r := ofR (F := fun s
 => T109 (orc C s.k) s.k s.m 0 0 y1 y2 y3 y4 y5 y6 y7 y8 y9 y10) (fun k => e109 k k 0 0 y1 y2 y3 y4 y5 y6 y7 y8 y9 y10) (by
  unfold T109
  exact
    cN cR (fun _ => cT (fun _ => cI (fun _ => cN cR (fun _ => cT (fun _ => cI (fun _ => cN cR (fun _ => cT (fun _ => cI (fun _ => cN cR (fun _ => cT (fun _ => cI (fun _ => cN cR (fun _ => cT (fun _ => cI
    (fun _ => cN cR (fun _ => cT (fun _ => cI (fun _ => cC))))))))))))))))))) h

noncomputable def T105l3 (O : Orc) (k m q0 q1 : Nat) (y1 : Int) (y2 : List V) (y3 : List V) (y4 : List V) : Option V := bif decide (y1 < 8) then must (inB y1 8) (PI.asInt .u32 y4[0 + y1.toNat * 1]? fun
 x1 => must (inB y1 8) (PI.asInt .u32 y2[0 + y1.toNat * 1]? fun x2 => must (inB y1 8) (must ((V.int .u32 (IntKind.u32.wrap (x1 + x2))).solid && true && (0 + y1.toNat * 1 + 1).ble y4.length && flatB C
 136 [V.int .u32 (IntKind.u32.wrap (x1 + x2))]) (O.L 0 105 4 [true, true, true, true, true, false, true] [] m [(2, V.ptr 0 0), (4, V.ptr 1 0), (11, V.ptr 2 0), (109, V.int .i64 (IntKind.i64.wrap (y1 +
 1)))] [Ob.box 136 y2 false, Ob.box 136 y3 false, Ob.box 136 (splice y4 (0 + y1.toNat * 1) [V.int .u32 (IntKind.u32.wrap (x1 + x2))]) false])))) else PI.asInt .u32 y4[0]? fun x3 => PI.asInt .u32 y4[1]?
 fun x4 => PI.asInt .u32 y4[2]? fun x5 => PI.asInt .u32 y4[3]? fun x6 => PI.asInt .u32 y4[4]? fun x7 => PI.asInt .u32 y4[5]? fun x8 => PI.asInt .u32 y4[6]? fun x9 => PI.asInt .u32 y4[7]? fun x10 =>
 must ([V.int .u32 x3, V.int .u32 x4, V.int .u32 x5, V.int .u32 x6, V.int .u32 x7, V.int .u32 x8, V.int .u32 x9, V.int .u32 x10].length.beq 8 && true && (0 + [V.int .u32 x3, V.int .u32 x4, V.int .u32
 x5, V.int .u32 x6, V.int .u32 x7, V.int .u32 x8, V.int .u32 x9, V.int .u32 x10].length).ble y3.length && flatB C 136 [V.int .u32 x3, V.int .u32 x4, V.int .u32 x5, V.int .u32 x6, V.int .u32 x7, V.int
 .u32 x8, V.int .u32 x9, V.int .u32 x10]) (some (V.tup [V.int .u32 x3, V.int .u32 x4, V.int .u32 x5, V.int .u32 x6, V.int .u32 x7, V.int .u32 x8, V.int .u32 x9, V.int .u32 x10]))
theorem e105l3 (k m q0 q1 : Nat) (y1 : Int) (y2 : List V) (y3 : List V) (y4 : List V) : runL C k 105 4 [true, true, true, true, true, false, true] [] (m + 1) [(2, V.ptr 0 0), (4, V.ptr 1 0), (11, V.ptr
 2 0), (109, V.int .i64 y1)] [Ob.box 136 y2 false, Ob.box 136 y3 false, Ob.box 136 y4 false] = T105l3 (orc C k) k m q0 q1 y1 y2 y3 y4 := by kernel_rfl
theorem E105l3 (y1 : Int) (y2 : List V) (y3 : List V) (y4 : List V) {r : V} (h : T105l3 (orcE C) 0 0 0 0 y1 y2 y3 y4 = some r) : loopE C 105 4 [true, true, true, true, true, false, true] [] [(2, V.ptr
 0 0), (4, V.ptr 1 0), (11, V.ptr 2 0), (109, V.int .i64 y1)] [Ob.box 136 y2 false, Ob.box 136 y3 false, Ob.box 136 y4 false] = some r := ofL (j := 0) (F := fun s => T105l3 (orc C s.k) s.k s.m 0 0 y1
 y2 y3 y4) (fs0 fun k m => e105l3 k m 0 0 y1 y2 y3 y4) (by
  unfold T105l3
  exact
    cF (cM ((cI (fun _ => cM ((cI (fun _ => cM ((cM ((cD0 gM ))))))))))) (cI (fun _ => cI (fun _ => cI (fun _ => cI (fun _ => cI (fun _ => cI (fun _ => cI (fun _ => cI (fun _ => cM ((cC)))))))))))) h

noncomputable def T110 (O : Orc) (k m q0 q1 : Nat) (y1 : Int) (y2 : Int) : Option V := need (O.R 0 107 [V.int .u32 y1, V.int .i64 (IntKind.i64.wrap (0 - y2))]) fun x1 => asTup (some x1) fun x2 =>
 PI.asInt .u32 x2[0]? fun x3 => some (V.tup [V.int .u32 x3])
theorem e110 (k m q0 q1 : Nat) (y1 : Int) (y2 : Int) : runV C (k + 1) 110 [V.int .u32 y1, V.int .i64 y2] = T110 (orc C k) k m q0 q1 y1 y2 := by kernel_rfl
theorem E110 (y1 : Int) (y2 : Int) {r : V} (h : T110 (orcE C) 0 0 0 0 y1 y2 = some r) : runE C 110 [V.int .u32 y1, V.int .i64 y2] = some r := ofR (F := fun s => T110 (orc C s.k) s.k s.m 0 0 y1 y2) (fun
 k => e110 k k 0 0 y1 y2) (by
  unfold T110
  exact
    cN cR (fun _ => cT (fun _ => cI (fun _ => cC)))) h

end Go.Proofs.Ytkjjneejmjfhlaa.Eq5

