/-
  The functions of a table, as the interpreter tells them. Printed by a program.
-/
import Derived.Test.YtkjjneejmjfhlaaPITab3
import Derived.Test.YtkjjneejmjfhlaaPIPlain
import Derived.KernelRfl
namespace Go.Proofs.Ytkjjneejmjfhlaa.Eq3
open Go Go.PI
set_option maxRecDepth 100000
set_option maxHeartbeats 4000000
set_option linter.unusedVariables false
set_option linter.unusedSimpArgs false
noncomputable abbrev C := tab3.cfg

noncomputable def T3 (O : Orc) (k m q0 q1 : Nat) (y1 : Int) (y2 : Nat) (y3 : List V) (y4 : Nat) (y5 : List V) : Option V := bif decide ((↑y4 : Int) > 1048576) then some (V.tup [V.bool true]) else need (O.R 0 6 [V.agg [V.int .i64 y1, V.sl y2
 y3], V.int .i64 1048576]) fun x1 => asTup (some x1) fun x2 => PI.asInt .i64 x2[0]? fun x3 => bif decide (x3 < 0) then some (V.tup [V.bool true]) else need (O.R 0 8 [V.agg [V.int .i64 y1, V.sl y2 y3]]) fun x4 => asTup (some x4) fun x5 =>
 PI.asInt .i64 x5[0]? fun x6 => asOsl x5[1]? fun x7 x8 => need (O.R 0 9 [V.sl y4 y5]) fun x9 => asTup (some x9) fun x10 => asOsl x10[0]? fun x11 x12 => need (O.R 0 7 [V.agg [V.int .i64 x6, V.sl x7 x8], V.sl x11 x12]) fun x13 => asTup (some
 x13) fun x14 => PI.asInt .i64 x14[0]? fun x15 => PI.asInt .i64 x14[1]? fun x16 => asSl x14[2]? fun x17 x18 => need (O.R 0 8 [V.agg [V.int .i64 y1, V.sl y2 y3]]) fun x19 => asTup (some x19) fun x20 => PI.asInt .i64 x20[0]? fun x21 => asOsl
 x20[1]? fun x22 x23 => need (O.R 0 9 [V.sl y4 y5]) fun x24 => asTup (some x24) fun x25 => asOsl x25[0]? fun x26 x27 => need (O.R 0 10 [V.agg [V.int .i64 x21, V.sl x22 x23], V.sl x26 x27]) fun x28 => asTup (some x28) fun x29 => PI.asInt .i64
 x29[0]? fun x30 => PI.asInt .i64 x29[1]? fun x31 => asOsl x29[2]? fun x32 x33 => need (O.R 0 11 [V.agg [V.int .i64 x30, V.int .i64 x31, V.sl x32 x33], V.agg [V.int .i64 x15, V.int .i64 x16, V.sl x17 x18]]) fun x34 => asTup (some x34) fun
 x35 => PI.asBool x35[0]? fun x36 => bif !x36 then some (V.tup [V.bool false]) else need (O.R 0 8 [V.agg [V.int .i64 y1, V.sl y2 y3]]) fun x37 => asTup (some x37) fun x38 => PI.asInt .i64 x38[0]? fun x39 => asOsl x38[1]? fun x40 x41 => need
 (O.R 0 12 [V.agg [V.int .i64 x21, V.sl x22 x23], V.agg [V.int .i64 x39, V.sl x40 x41]]) fun x42 => asTup (some x42) fun x43 => PI.asBool x43[0]? fun x44 => bif !x44 then some (V.tup [V.bool false]) else need (O.R 0 9 [V.sl y4 y5]) fun x45
 => asTup (some x45) fun x46 => asOsl x46[0]? fun x47 x48 => need (O.R 0 13 [V.sl x26 x27, V.sl x47 x48]) fun x49 => asTup (some x49) fun x50 => PI.asBool x50[0]? fun x51 => bif !x51 then some (V.tup [V.bool false]) else need (O.W 0 14 [0]
 [V.agg [V.int .i64 x21, V.ref 0], V.int .i64 1] [Ob.row 52 x22 x23 false]) fun x52 => asTup (some x52) fun x53 => PI.asInt .i64 x53[0]? fun x54 => asOsl x53[1]? fun x55 x56 => need (O.W 0 15 [0] [V.ref 0, V.int .i64 x54] [Ob.row 5 x26 x27
 false]) fun x57 => asTup (some x57) fun x58 => PI.asInt .i64 x58[0]? fun x59 => asOsl x58[1]? fun x60 x61 => bif decide (x59 < 0) then some (V.tup [V.bool false]) else need (O.R 0 11 [V.agg [V.int .i64 x30, V.int .i64 x31, V.sl x32 x33],
 V.agg [V.int .i64 x15, V.int .i64 x16, V.sl x17 x18]]) fun x62 => asTup (some x62) fun x63 => PI.asBool x63[0]? fun x64 => bif !x64 then some (V.tup [V.bool false]) else need (O.W 0 16 [0] [V.agg [V.int .i64 x30, V.int .i64 x31, V.ref 0],
 V.int .i64 1] [Ob.row 52 x32 x33 false]) fun x65 => asTup (some x65) fun x66 => PI.asInt .i64 x66[0]? fun x67 => asOsl x66[1]? fun x68 x69 => need (O.R 0 17 [V.agg [V.int .i64 x30, V.int .i64 x31, V.sl x68 x69], V.int .i64 1]) fun x70 =>
 asTup (some x70) fun x71 => PI.asInt .i64 x71[0]? fun x72 => bif decide (x72 < 0) then some (V.tup [V.bool false]) else bif x72 != x67 then some (V.tup [V.bool false]) else need (O.R 0 8 [V.agg [V.int .i64 y1, V.sl y2 y3]]) fun x73 => asTup
 (some x73) fun x74 => PI.asInt .i64 x74[0]? fun x75 => asOsl x74[1]? fun x76 x77 => need (O.R 0 9 [V.sl y4 y5]) fun x78 => asTup (some x78) fun x79 => asOsl x79[0]? fun x80 x81 => need (O.R 0 10 [V.agg [V.int .i64 x75, V.sl x76 x77], V.sl
 x80 x81]) fun x82 => asTup (some x82) fun x83 => PI.asInt .i64 x83[0]? fun x84 => PI.asInt .i64 x83[1]? fun x85 => asOsl x83[2]? fun x86 x87 => need (O.R 0 11 [V.agg [V.int .i64 x84, V.int .i64 x85, V.sl x86 x87], V.agg [V.int .i64 x15,
 V.int .i64 x16, V.sl x17 x18]]) fun x88 => asTup (some x88) fun x89 => PI.asBool x89[0]? fun x90 => bif !x90 then some (V.tup [V.bool false]) else need (O.R 0 17 [V.agg [V.int .i64 x30, V.int .i64 x31, V.sl x68 x69], V.int .i64 1]) fun x91
 => asTup (some x91) fun x92 => PI.asInt .i64 x92[0]? fun x93 => bif decide (x93 < 0) then some (V.tup [V.bool false]) else bif x93 != x67 then some (V.tup [V.bool false]) else some (V.tup [V.bool true])
theorem e3 (k m q0 q1 : Nat) (y1 : Int) (y2 : Nat) (y3 : List V) (y4 : Nat) (y5 : List V) : runV C (k + 1) 3 [V.agg [V.int .i64 y1, V.sl y2 y3], V.sl y4 y5] = T3 (orc C k) k m q0 q1 y1 y2 y3 y4 y5 := by kernel_rfl
theorem E3 (y1 : Int) (y2 : Nat) (y3 : List V) (y4 : Nat) (y5 : List V) {r : V} (h : T3 (orcE C) 0 0 0 0 y1 y2 y3 y4 y5 = some r) : runE C 3 [V.agg [V.int .i64 y1, V.sl y2 y3], V.sl y4 y5] = some r := ofR (F := fun s => T3 (orc C s.k) s.k
 s.m 0 0 y1 y2 y3 y4 y5) (fun k => e3 k k 0 0 y1 y2 y3 y4 y5) (by
  unfold T3
  exact
    cF (cC) (cN cR (fun _ => cT (fun _ => cI (fun _ => cF (cC) (cN cR (fun _ => cT (fun _ => cI (fun _ => cO (fun _ _ => cN cR (fun _ => cT (fun _ => cO (fun _ _ => cN cR (fun _ => cT (fun _ => cI (fun _ => cI (fun _ => cL (fun _ _ => cN cR (fun
    _ => cT (fun _ => cI (fun _ => cO (fun _ _ => cN cR (fun _ => cT (fun _ => cO (fun _ _ => cN cR (fun _ => cT (fun _ => cI (fun _ => cI (fun _ => cO (fun _ _ => cN cR (fun _ => cT (fun _ => cB (fun _ => cF (cC) (cN cR (fun _ => cT (fun _
    => cI (fun _ => cO (fun _ _ => cN cR (fun _ => cT (fun _ => cB (fun _ => cF (cC) (cN cR (fun _ => cT (fun _ => cO (fun _ _ => cN cR (fun _ => cT (fun _ => cB (fun _ => cF (cC) (cN cQ (fun _ => cT (fun _ => cI (fun _ => cO (fun _ _ => cN
    cQ (fun _ => cT (fun _ => cI (fun _ => cO (fun _ _ => cF (cC) (cN cR (fun _ => cT (fun _ => cB (fun _ => cF (cC) (cN cQ (fun _ => cT (fun _ => cI (fun _ => cO (fun _ _ => cN cR (fun _ => cT (fun _ => cI (fun _ => cF (cC) (cF (cC) (cN cR
    (fun _ => cT (fun _ => cI (fun _ => cO (fun _ _ => cN cR (fun _ => cT (fun _ => cO (fun _ _ => cN cR (fun _ => cT (fun _ => cI (fun _ => cI (fun _ => cO (fun _ _ => cN cR (fun _ => cT (fun _ => cB (fun _ => cF (cC) (cN cR (fun _ => cT
    (fun _ => cI (fun _ => cF (cC) (cF (cC) (cC)))))))))))))))))))))))))))))))))))))))))))))))))))))))))))))))))))))))))))))))))))))))))))) h

noncomputable def T6 (O : Orc) (k m q0 q1 : Nat) (y1 : Int) (y2 : Nat) (y3 : List V) (y4 : Int) : Option V := need (O.R 0 29 [V.sl y2 y3, V.int .i64 y4]) fun x1 => asTup (some x1) fun x2 => PI.asInt .i64 x2[0]? fun x3 => bif decide (x3 < 0)
 then some (V.tup [V.int .i64 (-1)]) else some (V.tup [V.int .i64 x3])
theorem e6 (k m q0 q1 : Nat) (y1 : Int) (y2 : Nat) (y3 : List V) (y4 : Int) : runV C (k + 1) 6 [V.agg [V.int .i64 y1, V.sl y2 y3], V.int .i64 y4] = T6 (orc C k) k m q0 q1 y1 y2 y3 y4 := by kernel_rfl
theorem E6 (y1 : Int) (y2 : Nat) (y3 : List V) (y4 : Int) {r : V} (h : T6 (orcE C) 0 0 0 0 y1 y2 y3 y4 = some r) : runE C 6 [V.agg [V.int .i64 y1, V.sl y2 y3], V.int .i64 y4] = some r := ofR (F := fun s => T6 (orc C s.k) s.k s.m 0 0 y1 y2 y3
 y4) (fun k => e6 k k 0 0 y1 y2 y3 y4) (by
  unfold T6
  exact
    cN cR (fun _ => cT (fun _ => cI (fun _ => cF (cC) (cC))))) h

noncomputable def T8 (O : Orc) (k m q0 q1 : Nat) (y1 : Int) (y2 : Nat) (y3 : List V) : Option V := need (O.R 0 34 [V.sl y2 y3]) fun x1 => asTup (some x1) fun x2 => asOsl x2[0]? fun x3 x4 => must (false || x4.all flatV) (some (V.tup [V.int
 .i64 y1, V.osl x3 x4]))
theorem e8 (k m q0 q1 : Nat) (y1 : Int) (y2 : Nat) (y3 : List V) : runV C (k + 1) 8 [V.agg [V.int .i64 y1, V.sl y2 y3]] = T8 (orc C k) k m q0 q1 y1 y2 y3 := by kernel_rfl
theorem E8 (y1 : Int) (y2 : Nat) (y3 : List V) {r : V} (h : T8 (orcE C) 0 0 0 0 y1 y2 y3 = some r) : runE C 8 [V.agg [V.int .i64 y1, V.sl y2 y3]] = some r := ofR (F := fun s => T8 (orc C s.k) s.k s.m 0 0 y1 y2 y3) (fun k => e8 k k 0 0 y1 y2
 y3) (by
  unfold T8
  exact
    cN cR (fun _ => cT (fun _ => cO (fun _ _ => cM ((cC)))))) h

noncomputable def T9 (O : Orc) (k m q0 q1 : Nat) (y1 : Nat) (y2 : List V) : Option V := must (decide ((↑y1 : Int) = (↑y1 : Int)) && decide (0 ≤ (↑y1 : Int)) && decide ((↑y1 : Int) ≤ 140737488355328) && decide ((↑y1 : Int) * 1 ≤
 140737488355328)) (O.L 0 9 0 [true, true, false, true] [] k [(0, V.sl y1 y2), (3, V.ref 0), (4, V.int .i64 0)] [Ob.row 5 (↑y1 : Int).toNat (reps (↑y1 : Int).toNat [V.int .u8 0]) false])
theorem e9 (k m q0 q1 : Nat) (y1 : Nat) (y2 : List V) : runV C (k + 1) 9 [V.sl y1 y2] = T9 (orc C k) k m q0 q1 y1 y2 := by kernel_rfl
theorem E9 (y1 : Nat) (y2 : List V) {r : V} (h : T9 (orcE C) 0 0 0 0 y1 y2 = some r) : runE C 9 [V.sl y1 y2] = some r := ofR (F := fun s => T9 (orc C s.k) s.k s.m 0 0 y1 y2) (fun k => e9 k k 0 0 y1 y2) (by
  unfold T9
  exact
    cM ((cD0 gK ))) h

noncomputable def T7 (O : Orc) (k m q0 q1 : Nat) (y1 : Int) (y2 : Nat) (y3 : List V) (y4 : Nat) (y5 : List V) : Option V := need (O.R 0 30 [V.agg [V.int .i64 y1, V.sl y2 y3]]) fun x1 => asTup (some x1) fun x2 => PI.asInt .i64 x2[0]? fun x3
 => bif x3 != 0 then some (V.tup [V.int .i64 x3, V.int .i64 0, V.sl 0 []]) else need (O.R 0 31 [V.agg [V.int .i64 y1, V.sl y2 y3]]) fun x4 => asTup (some x4) fun x5 => PI.asInt .i64 x5[0]? fun x6 => asOsl x5[1]? fun x7 x8 => need (O.W 0 32
 [] [V.ptr 0 0, V.sl y4 y5] [Ob.box 29 [V.int .i64 x6, V.ref 1] false, Ob.row 52 x7 x8 false]) fun x9 => asTup (some x9) fun x10 => PI.asInt .i64 x10[0]? fun x11 => PI.asInt .i64 x10[1]? fun x12 => asOsl x10[2]? fun x13 x14 => need (O.R 0 33
 [V.agg [V.int .i64 x12, V.sl x13 x14], V.int .i64 x11]) fun x15 => asTup (some x15) fun x16 => PI.asInt .i64 x16[0]? fun x17 => PI.asInt .i64 x16[1]? fun x18 => asSl x16[2]? fun x19 x20 => some (V.tup [V.int .i64 x17, V.int .i64 x18, V.sl
 x19 x20])
theorem e7 (k m q0 q1 : Nat) (y1 : Int) (y2 : Nat) (y3 : List V) (y4 : Nat) (y5 : List V) : runV C (k + 1) 7 [V.agg [V.int .i64 y1, V.sl y2 y3], V.sl y4 y5] = T7 (orc C k) k m q0 q1 y1 y2 y3 y4 y5 := by kernel_rfl
theorem E7 (y1 : Int) (y2 : Nat) (y3 : List V) (y4 : Nat) (y5 : List V) {r : V} (h : T7 (orcE C) 0 0 0 0 y1 y2 y3 y4 y5 = some r) : runE C 7 [V.agg [V.int .i64 y1, V.sl y2 y3], V.sl y4 y5] = some r := ofR (F := fun s => T7 (orc C s.k) s.k
 s.m 0 0 y1 y2 y3 y4 y5) (fun k => e7 k k 0 0 y1 y2 y3 y4 y5) (by
  unfold T7
  exact
    cN cR (fun _ => cT (fun _ => cI (fun _ => cF (cC) (cN cR (fun _ => cT (fun _ => cI (fun _ => cO (fun _ _ => cN cQ (fun _ => cT (fun _ => cI (fun _ => cI (fun _ => cO (fun _ _ => cN cR (fun _ => cT (fun _ => cI (fun _ => cI (fun _ => cL (fun
    _ _ => cC))))))))))))))))))) h

noncomputable def T10 (O : Orc) (k m q0 q1 : Nat) (y1 : Int) (y2 : Nat) (y3 : List V) (y4 : Nat) (y5 : List V) : Option V := need (O.R 0 35 [V.agg [V.int .i64 y1, V.sl y2 y3], V.fn 36 [V.pin [V.sl y4 y5] 0]]) fun x1 => asTup (some x1) fun x2
 => PI.asInt .i64 x2[0]? fun x3 => PI.asInt .i64 x2[1]? fun x4 => asOsl x2[2]? fun x5 x6 => must (false || x6.all flatV) (some (V.tup [V.int .i64 x3, V.int .i64 x4, V.osl x5 x6]))
theorem e10 (k m q0 q1 : Nat) (y1 : Int) (y2 : Nat) (y3 : List V) (y4 : Nat) (y5 : List V) : runV C (k + 1) 10 [V.agg [V.int .i64 y1, V.sl y2 y3], V.sl y4 y5] = T10 (orc C k) k m q0 q1 y1 y2 y3 y4 y5 := by kernel_rfl
theorem E10 (y1 : Int) (y2 : Nat) (y3 : List V) (y4 : Nat) (y5 : List V) {r : V} (h : T10 (orcE C) 0 0 0 0 y1 y2 y3 y4 y5 = some r) : runE C 10 [V.agg [V.int .i64 y1, V.sl y2 y3], V.sl y4 y5] = some r := ofR (F := fun s => T10 (orc C s.k)
 s.k s.m 0 0 y1 y2 y3 y4 y5) (fun k => e10 k k 0 0 y1 y2 y3 y4 y5) (by
  unfold T10
  exact
    cN cR (fun _ => cT (fun _ => cI (fun _ => cI (fun _ => cO (fun _ _ => cM ((cC)))))))) h

noncomputable def T11 (O : Orc) (k m q0 q1 : Nat) (y1 : Int) (y2 : Int) (y3 : Nat) (y4 : List V) (y5 : Int) (y6 : Int) (y7 : Nat) (y8 : List V) : Option V := bif y1 != y5 then some (V.tup [V.bool false]) else need (O.R 0 12 [V.agg [V.int
 .i64 y2, V.sl y3 y4], V.agg [V.int .i64 y6, V.sl y7 y8]]) fun x1 => asTup (some x1) fun x2 => PI.asBool x2[0]? fun x3 => bif !x3 then some (V.tup [V.bool false]) else some (V.tup [V.bool true])
theorem e11 (k m q0 q1 : Nat) (y1 : Int) (y2 : Int) (y3 : Nat) (y4 : List V) (y5 : Int) (y6 : Int) (y7 : Nat) (y8 : List V) : runV C (k + 1) 11 [V.agg [V.int .i64 y1, V.int .i64 y2, V.sl y3 y4], V.agg [V.int .i64 y5, V.int .i64 y6, V.sl y7
 y8]] = T11 (orc C k) k m q0 q1 y1 y2 y3 y4 y5 y6 y7 y8 := by kernel_rfl
theorem E11 (y1 : Int) (y2 : Int) (y3 : Nat) (y4 : List V) (y5 : Int) (y6 : Int) (y7 : Nat) (y8 : List V) {r : V} (h : T11 (orcE C) 0 0 0 0 y1 y2 y3 y4 y5 y6 y7 y8 = some r) : runE C 11 [V.agg [V.int .i64 y1, V.int .i64 y2, V.sl y3 y4],
 V.agg [V.int .i64 y5, V.int .i64 y6, V.sl y7 y8]] = some r := ofR (F := fun s => T11 (orc C s.k) s.k s.m 0 0 y1 y2 y3 y4 y5 y6 y7 y8) (fun k => e11 k k 0 0 y1 y2 y3 y4 y5 y6 y7 y8) (by
  unfold T11
  exact
    cF (cC) (cN cR (fun _ => cT (fun _ => cB (fun _ => cF (cC) (cC)))))) h

noncomputable def T12 (O : Orc) (k m q0 q1 : Nat) (y1 : Int) (y2 : Nat) (y3 : List V) (y4 : Int) (y5 : Nat) (y6 : List V) : Option V := bif y1 != y4 then some (V.tup [V.bool false]) else need (O.R 0 38 [V.sl y2 y3, V.sl y5 y6]) fun x1 =>
 asTup (some x1) fun x2 => PI.asBool x2[0]? fun x3 => bif !x3 then some (V.tup [V.bool false]) else some (V.tup [V.bool true])
theorem e12 (k m q0 q1 : Nat) (y1 : Int) (y2 : Nat) (y3 : List V) (y4 : Int) (y5 : Nat) (y6 : List V) : runV C (k + 1) 12 [V.agg [V.int .i64 y1, V.sl y2 y3], V.agg [V.int .i64 y4, V.sl y5 y6]] = T12 (orc C k) k m q0 q1 y1 y2 y3 y4 y5 y6 :=
 by kernel_rfl
theorem E12 (y1 : Int) (y2 : Nat) (y3 : List V) (y4 : Int) (y5 : Nat) (y6 : List V) {r : V} (h : T12 (orcE C) 0 0 0 0 y1 y2 y3 y4 y5 y6 = some r) : runE C 12 [V.agg [V.int .i64 y1, V.sl y2 y3], V.agg [V.int .i64 y4, V.sl y5 y6]] = some r :=
 ofR (F := fun s => T12 (orc C s.k) s.k s.m 0 0 y1 y2 y3 y4 y5 y6) (fun k => e12 k k 0 0 y1 y2 y3 y4 y5 y6) (by
  unfold T12
  exact
    cF (cC) (cN cR (fun _ => cT (fun _ => cB (fun _ => cF (cC) (cC)))))) h

noncomputable def T13 (O : Orc) (k m q0 q1 : Nat) (y1 : Nat) (y2 : List V) (y3 : Nat) (y4 : List V) : Option V := bif (↑y1 : Int) != (↑y3 : Int) then some (V.tup [V.bool false]) else O.L 0 13 0 [true, true, false, true] [] k [(0, V.sl y1
 y2), (1, V.sl y3 y4), (5, V.int .i64 0)] []
theorem e13 (k m q0 q1 : Nat) (y1 : Nat) (y2 : List V) (y3 : Nat) (y4 : List V) : runV C (k + 1) 13 [V.sl y1 y2, V.sl y3 y4] = T13 (orc C k) k m q0 q1 y1 y2 y3 y4 := by kernel_rfl
theorem E13 (y1 : Nat) (y2 : List V) (y3 : Nat) (y4 : List V) {r : V} (h : T13 (orcE C) 0 0 0 0 y1 y2 y3 y4 = some r) : runE C 13 [V.sl y1 y2, V.sl y3 y4] = some r := ofR (F := fun s => T13 (orc C s.k) s.k s.m 0 0 y1 y2 y3 y4) (fun k => e13
 k k 0 0 y1 y2 y3 y4) (by
  unfold T13
  exact
    cF (cC) (cD0 gK )) h

noncomputable def T14 (O : Orc) (k m q0 q1 : Nat) (y1 : Int) (y2 : Int) (y3 : Nat) (y4 : List V) : Option V := need (O.W 0 39 [0] [V.ref 0, V.int .i64 y2] [Ob.row 52 y3 y4 false]) fun x1 => asTup (some x1) fun x2 => PI.asInt .i64 x2[0]? fun
 x3 => asOsl x2[1]? fun x4 x5 => must (false || x5.all flatV) (some (V.tup [V.int .i64 x3, V.osl x4 x5]))
theorem e14 (k m q0 q1 : Nat) (y1 : Int) (y2 : Int) (y3 : Nat) (y4 : List V) : runW C (k + 1) 14 [0] [V.agg [V.int .i64 y1, V.ref 0], V.int .i64 y2] [Ob.row 52 y3 y4 false] = T14 (orc C k) k m q0 q1 y1 y2 y3 y4 := by kernel_rfl
theorem E14 (y1 : Int) (y2 : Int) (y3 : Nat) (y4 : List V) {r : V} (h : T14 (orcE C) 0 0 0 0 y1 y2 y3 y4 = some r) : runWE C 14 [0] [V.agg [V.int .i64 y1, V.ref 0], V.int .i64 y2] [Ob.row 52 y3 y4 false] = some r := ofW (F := fun s => T14
 (orc C s.k) s.k s.m 0 0 y1 y2 y3 y4) (fun k => e14 k k 0 0 y1 y2 y3 y4) (by
  unfold T14
  exact
    cN cQ (fun _ => cT (fun _ => cI (fun _ => cO (fun _ _ => cM ((cC))))))) h

noncomputable def T15 (O : Orc) (k m q0 q1 : Nat) (y1 : Int) (y2 : Nat) (y3 : List V) : Option V := O.X 0 15 [0] [Ob.row 5 0 [] false] 0 [true, false, true] [] k [(0, V.ref 0), (1, V.int .i64 y1), (5, V.int .i64 0)] [Ob.row 5 y2 y3 false]
theorem e15 (k m q0 q1 : Nat) (y1 : Int) (y2 : Nat) (y3 : List V) : runW C (k + 1) 15 [0] [V.ref 0, V.int .i64 y1] [Ob.row 5 y2 y3 false] = T15 (orc C k) k m q0 q1 y1 y2 y3 := by kernel_rfl
theorem E15 (y1 : Int) (y2 : Nat) (y3 : List V) {r : V} (h : T15 (orcE C) 0 0 0 0 y1 y2 y3 = some r) : runWE C 15 [0] [V.ref 0, V.int .i64 y1] [Ob.row 5 y2 y3 false] = some r := ofW (F := fun s => T15 (orc C s.k) s.k s.m 0 0 y1 y2 y3) (fun k
 => e15 k k 0 0 y1 y2 y3) (by
  unfold T15
  exact
    cX0 gK ) h

noncomputable def T16 (O : Orc) (k m q0 q1 : Nat) (y1 : Int) (y2 : Int) (y3 : Int) (y4 : Nat) (y5 : List V) : Option V := need (O.W 0 14 [0] [V.agg [V.int .i64 y2, V.ref 0], V.int .i64 y3] [Ob.row 52 y4 y5 false]) fun x1 => asTup (some x1)
 fun x2 => PI.asInt .i64 x2[0]? fun x3 => asOsl x2[1]? fun x4 x5 => must (false || x5.all flatV) (some (V.tup [V.int .i64 x3, V.osl x4 x5]))
theorem e16 (k m q0 q1 : Nat) (y1 : Int) (y2 : Int) (y3 : Int) (y4 : Nat) (y5 : List V) : runW C (k + 1) 16 [0] [V.agg [V.int .i64 y1, V.int .i64 y2, V.ref 0], V.int .i64 y3] [Ob.row 52 y4 y5 false] = T16 (orc C k) k m q0 q1 y1 y2 y3 y4 y5
 := by kernel_rfl
theorem E16 (y1 : Int) (y2 : Int) (y3 : Int) (y4 : Nat) (y5 : List V) {r : V} (h : T16 (orcE C) 0 0 0 0 y1 y2 y3 y4 y5 = some r) : runWE C 16 [0] [V.agg [V.int .i64 y1, V.int .i64 y2, V.ref 0], V.int .i64 y3] [Ob.row 52 y4 y5 false] = some r
 := ofW (F := fun s => T16 (orc C s.k) s.k s.m 0 0 y1 y2 y3 y4 y5) (fun k => e16 k k 0 0 y1 y2 y3 y4 y5) (by
  unfold T16
  exact
    cN cQ (fun _ => cT (fun _ => cI (fun _ => cO (fun _ _ => cM ((cC))))))) h

noncomputable def T17 (O : Orc) (k m q0 q1 : Nat) (y1 : Int) (y2 : Int) (y3 : Nat) (y4 : List V) (y5 : Int) : Option V := need (O.R 0 40 [V.agg [V.int .i64 y2, V.sl y3 y4], V.int .i64 y5]) fun x1 => asTup (some x1) fun x2 => PI.asInt .i64
 x2[0]? fun x3 => bif decide (x3 < 0) then some (V.tup [V.int .i64 (-1)]) else some (V.tup [V.int .i64 x3])
theorem e17 (k m q0 q1 : Nat) (y1 : Int) (y2 : Int) (y3 : Nat) (y4 : List V) (y5 : Int) : runV C (k + 1) 17 [V.agg [V.int .i64 y1, V.int .i64 y2, V.sl y3 y4], V.int .i64 y5] = T17 (orc C k) k m q0 q1 y1 y2 y3 y4 y5 := by kernel_rfl
theorem E17 (y1 : Int) (y2 : Int) (y3 : Nat) (y4 : List V) (y5 : Int) {r : V} (h : T17 (orcE C) 0 0 0 0 y1 y2 y3 y4 y5 = some r) : runE C 17 [V.agg [V.int .i64 y1, V.int .i64 y2, V.sl y3 y4], V.int .i64 y5] = some r := ofR (F := fun s => T17
 (orc C s.k) s.k s.m 0 0 y1 y2 y3 y4 y5) (fun k => e17 k k 0 0 y1 y2 y3 y4 y5) (by
  unfold T17
  exact
    cN cR (fun _ => cT (fun _ => cI (fun _ => cF (cC) (cC))))) h

noncomputable def T29 (O : Orc) (k m q0 q1 : Nat) (y1 : Nat) (y2 : List V) (y3 : Int) : Option V := bif decide (IntKind.i64.wrap (y3 - (↑y1 : Int)) < 0) then some (V.tup [V.int .i64 (-1)]) else some (V.tup [V.int .i64 (IntKind.i64.wrap (y3 -
 (↑y1 : Int)))])
theorem e29 (k m q0 q1 : Nat) (y1 : Nat) (y2 : List V) (y3 : Int) : runV C (k + 1) 29 [V.sl y1 y2, V.int .i64 y3] = T29 (orc C k) k m q0 q1 y1 y2 y3 := by kernel_rfl
theorem E29 (y1 : Nat) (y2 : List V) (y3 : Int) {r : V} (h : T29 (orcE C) 0 0 0 0 y1 y2 y3 = some r) : runE C 29 [V.sl y1 y2, V.int .i64 y3] = some r := ofR (F := fun s => T29 (orc C s.k) s.k s.m 0 0 y1 y2 y3) (fun k => e29 k k 0 0 y1 y2 y3)
 (by
  unfold T29
  exact
    cF (cC) (cC)) h

noncomputable def T34 (O : Orc) (k m q0 q1 : Nat) (y1 : Nat) (y2 : List V) : Option V := must (decide ((↑y1 : Int) = (↑y1 : Int)) && decide (0 ≤ (↑y1 : Int)) && decide ((↑y1 : Int) ≤ 140737488355328) && decide ((↑y1 : Int) * 24 ≤
 140737488355328)) (O.L 0 34 0 [true, true, false, true] [] k [(0, V.sl y1 y2), (3, V.ref 0), (4, V.int .i64 0)] [Ob.row 52 (↑y1 : Int).toNat (reps (↑y1 : Int).toNat [V.int .i64 0, V.int .i64 0, V.int .i64 0]) false])
theorem e34 (k m q0 q1 : Nat) (y1 : Nat) (y2 : List V) : runV C (k + 1) 34 [V.sl y1 y2] = T34 (orc C k) k m q0 q1 y1 y2 := by kernel_rfl
theorem E34 (y1 : Nat) (y2 : List V) {r : V} (h : T34 (orcE C) 0 0 0 0 y1 y2 = some r) : runE C 34 [V.sl y1 y2] = some r := ofR (F := fun s => T34 (orc C s.k) s.k s.m 0 0 y1 y2) (fun k => e34 k k 0 0 y1 y2) (by
  unfold T34
  exact
    cM ((cD0 gK ))) h

noncomputable def T9l1 (O : Orc) (k m q0 q1 : Nat) (y1 : Nat) (y2 : List V) (y3 : Int) (y4 : Nat) (y5 : List V) : Option V := bif decide (y3 < (↑y1 : Int)) then must (inB y3 y1) (PI.asInt .u8 y2[y3.toNat * 1]? fun x1 => must (inB y3 y4)
 (must ([V.int .u8 x1].length.beq 1 && (y3.toNat * 1 + [V.int .u8 x1].length).ble y5.length) (O.L 0 9 0 [true, true, false, true] [] m [(0, V.sl y1 y2), (3, V.ref 0), (4, V.int .i64 (IntKind.i64.wrap (y3 + 1)))] [Ob.row 5 y4 (splice y5
 (y3.toNat * 1) [V.int .u8 x1]) false]))) else must (false || y5.all flatV) (some (V.tup [V.osl y4 y5]))
theorem e9l1 (k m q0 q1 : Nat) (y1 : Nat) (y2 : List V) (y3 : Int) (y4 : Nat) (y5 : List V) : runL C k 9 0 [true, true, false, true] [] (m + 1) [(0, V.sl y1 y2), (3, V.ref 0), (4, V.int .i64 y3)] [Ob.row 5 y4 y5 false] = T9l1 (orc C k) k m
 q0 q1 y1 y2 y3 y4 y5 := by kernel_rfl
theorem E9l1 (y1 : Nat) (y2 : List V) (y3 : Int) (y4 : Nat) (y5 : List V) {r : V} (h : T9l1 (orcE C) 0 0 0 0 y1 y2 y3 y4 y5 = some r) : loopE C 9 0 [true, true, false, true] [] [(0, V.sl y1 y2), (3, V.ref 0), (4, V.int .i64 y3)] [Ob.row 5 y4
 y5 false] = some r := ofL (j := 0) (F := fun s => T9l1 (orc C s.k) s.k s.m 0 0 y1 y2 y3 y4 y5) (fs0 fun k m => e9l1 k m 0 0 y1 y2 y3 y4 y5) (by
  unfold T9l1
  exact
    cF (cM ((cI (fun _ => cM ((cM ((cD0 gM )))))))) (cM ((cC)))) h

noncomputable def T30 (O : Orc) (k m q0 q1 : Nat) (y1 : Int) (y2 : Nat) (y3 : List V) : Option V := need (O.R 0 51 [V.int .i64 y1, V.int .i64 0, V.int .i64 1000000]) fun x1 => asTup (some x1) fun x2 => PI.asBool x2[0]? fun x3 => bif !x3 then
 some (V.tup [V.int .i64 3]) else bif decide ((↑y2 : Int) > 12) then some (V.tup [V.int .i64 2]) else O.L 0 30 0 [true, true, true, false, true] [] k [(1, V.ptr 0 0), (3, V.int .i64 0)] [Ob.box 29 [V.int .i64 y1, V.sl y2 y3] false]
theorem e30 (k m q0 q1 : Nat) (y1 : Int) (y2 : Nat) (y3 : List V) : runV C (k + 1) 30 [V.agg [V.int .i64 y1, V.sl y2 y3]] = T30 (orc C k) k m q0 q1 y1 y2 y3 := by kernel_rfl
theorem E30 (y1 : Int) (y2 : Nat) (y3 : List V) {r : V} (h : T30 (orcE C) 0 0 0 0 y1 y2 y3 = some r) : runE C 30 [V.agg [V.int .i64 y1, V.sl y2 y3]] = some r := ofR (F := fun s => T30 (orc C s.k) s.k s.m 0 0 y1 y2 y3) (fun k => e30 k k 0 0
 y1 y2 y3) (by
  unfold T30
  exact
    cN cR (fun _ => cT (fun _ => cB (fun _ => cF (cC) (cF (cC) (cD0 gK )))))) h

noncomputable def T31 (O : Orc) (k m q0 q1 : Nat) (y1 : Int) (y2 : Nat) (y3 : List V) : Option V := must (decide (y3.length = y2 * 3)) (must (true && (0 + y2).ble 140737488355328 && ((0 + y2) * 24).ble 140737488355328) (must (false || y3.all
 flatV) (some (V.tup [V.int .i64 y1, V.osl (0 + y2) y3]))))
theorem e31 (k m q0 q1 : Nat) (y1 : Int) (y2 : Nat) (y3 : List V) : runV C (k + 1) 31 [V.agg [V.int .i64 y1, V.sl y2 y3]] = T31 (orc C k) k m q0 q1 y1 y2 y3 := by kernel_rfl
theorem E31 (y1 : Int) (y2 : Nat) (y3 : List V) {r : V} (h : T31 (orcE C) 0 0 0 0 y1 y2 y3 = some r) : runE C 31 [V.agg [V.int .i64 y1, V.sl y2 y3]] = some r := ofR (F := fun s => T31 (orc C s.k) s.k s.m 0 0 y1 y2 y3) (fun k => e31 k k 0 0
 y1 y2 y3) (by
  unfold T31
  exact
    cM ((cM ((cM ((cC))))))) h

noncomputable def T32 (O : Orc) (k m q0 q1 : Nat) (y1 : Nat) (y2 : List V) (y3 : Int) (y4 : Nat) (y5 : List V) : Option V := bif (↑y1 : Int) != 8 then bif (↑y1 : Int) != 15 then must (false || y5.all flatV) (some (V.tup [V.int .i64 5, V.int
 .i64 y3, V.osl y4 y5])) else must (inB 0 y1) (PI.asInt .u8 y2[0]? fun x1 => must (true && decide (8 ≤ (↑y1 : Int))) (need (O.R 0 52 [V.sl 7 (List.take 7 (List.drop 1 y2))]) fun x2 => asTup (some x2) fun x3 => PI.asInt .i64 x3[0]? fun x4 =>
 must (true && decide (8 ≤ (↑y1 : Int))) (need (O.R 0 52 [V.sl (y1 - 8) (List.take ((y1 - 8) * 1) (List.drop 8 y2))]) fun x5 => asTup (some x5) fun x6 => PI.asInt .i64 x6[0]? fun x7 => need (O.R 0 53 [V.int .i64 (IntKind.i64.wrap x1), V.int
 .i64 x4, V.int .i64 x7]) fun x8 => asTup (some x8) fun x9 => PI.asInt .i64 x9[0]? fun x10 => asSl x9[1]? fun x11 x12 => bif x10 != 0 then must (false || y5.all flatV) (some (V.tup [V.int .i64 5, V.int .i64 y3, V.osl y4 y5])) else need (O.R
 0 54 [V.sl x11 x12, V.sl y1 y2]) fun x13 => asTup (some x13) fun x14 => PI.asBool x14[0]? fun x15 => bif !x15 then must (false || y5.all flatV) (some (V.tup [V.int .i64 5, V.int .i64 y3, V.osl y4 y5])) else bif IntKind.i64.wrap x1 == 1 then
 need (O.W 0 55 [] [V.ptr 0 0, V.int .i64 x4] [Ob.box 29 [V.int .i64 y3, V.ref 1] false, Ob.row 52 y4 y5 false]) fun x16 => asTup (some x16) fun x17 => PI.asInt .i64 x17[0]? fun x18 => PI.asInt .i64 x17[1]? fun x19 => asOsl x17[2]? fun x20
 x21 => must (false || x21.all flatV) (some (V.tup [V.int .i64 x18, V.int .i64 x19, V.osl x20 x21])) else bif IntKind.i64.wrap x1 == 2 then need (O.W 0 56 [] [V.ptr 0 0, V.int .i64 x4, V.int .i64 x7] [Ob.box 29 [V.int .i64 y3, V.ref 1]
 false, Ob.row 52 y4 y5 false]) fun x22 => asTup (some x22) fun x23 => PI.asInt .i64 x23[0]? fun x24 => PI.asInt .i64 x23[1]? fun x25 => asOsl x23[2]? fun x26 x27 => must (false || x27.all flatV) (some (V.tup [V.int .i64 x24, V.int .i64 x25,
 V.osl x26 x27])) else need (O.W 0 57 [] [V.ptr 0 0, V.int .i64 x4] [Ob.box 29 [V.int .i64 y3, V.ref 1] false, Ob.row 52 y4 y5 false]) fun x28 => asTup (some x28) fun x29 => PI.asInt .i64 x29[0]? fun x30 => PI.asInt .i64 x29[1]? fun x31 =>
 asOsl x29[2]? fun x32 x33 => must (false || x33.all flatV) (some (V.tup [V.int .i64 x30, V.int .i64 x31, V.osl x32 x33]))))) else must (inB 0 y1) (PI.asInt .u8 y2[0]? fun x34 => must (true && decide (8 ≤ (↑y1 : Int))) (need (O.R 0 52 [V.sl
 7 (List.take 7 (List.drop 1 y2))]) fun x35 => asTup (some x35) fun x36 => PI.asInt .i64 x36[0]? fun x37 => must (true && decide (8 ≤ (↑y1 : Int))) (need (O.R 0 52 [V.sl (y1 - 8) (List.take ((y1 - 8) * 1) (List.drop 8 y2))]) fun x38 => asTup
 (some x38) fun x39 => PI.asInt .i64 x39[0]? fun x40 => need (O.R 0 53 [V.int .i64 (IntKind.i64.wrap x34), V.int .i64 x37, V.int .i64 x40]) fun x41 => asTup (some x41) fun x42 => PI.asInt .i64 x42[0]? fun x43 => asSl x42[1]? fun x44 x45 =>
 bif x43 != 0 then must (false || y5.all flatV) (some (V.tup [V.int .i64 5, V.int .i64 y3, V.osl y4 y5])) else need (O.R 0 54 [V.sl x44 x45, V.sl y1 y2]) fun x46 => asTup (some x46) fun x47 => PI.asBool x47[0]? fun x48 => bif !x48 then must
 (false || y5.all flatV) (some (V.tup [V.int .i64 5, V.int .i64 y3, V.osl y4 y5])) else bif IntKind.i64.wrap x34 == 1 then need (O.W 0 55 [] [V.ptr 0 0, V.int .i64 x37] [Ob.box 29 [V.int .i64 y3, V.ref 1] false, Ob.row 52 y4 y5 false]) fun
 x49 => asTup (some x49) fun x50 => PI.asInt .i64 x50[0]? fun x51 => PI.asInt .i64 x50[1]? fun x52 => asOsl x50[2]? fun x53 x54 => must (false || x54.all flatV) (some (V.tup [V.int .i64 x51, V.int .i64 x52, V.osl x53 x54])) else bif
 IntKind.i64.wrap x34 == 2 then need (O.W 0 56 [] [V.ptr 0 0, V.int .i64 x37, V.int .i64 x40] [Ob.box 29 [V.int .i64 y3, V.ref 1] false, Ob.row 52 y4 y5 false]) fun x55 => asTup (some x55) fun x56 => PI.asInt .i64 x56[0]? fun x57 => PI.asInt
 .i64 x56[1]? fun x58 => asOsl x56[2]? fun x59 x60 => must (false || x60.all flatV) (some (V.tup [V.int .i64 x57, V.int .i64 x58, V.osl x59 x60])) else need (O.W 0 57 [] [V.ptr 0 0, V.int .i64 x37] [Ob.box 29 [V.int .i64 y3, V.ref 1] false,
 Ob.row 52 y4 y5 false]) fun x61 => asTup (some x61) fun x62 => PI.asInt .i64 x62[0]? fun x63 => PI.asInt .i64 x62[1]? fun x64 => asOsl x62[2]? fun x65 x66 => must (false || x66.all flatV) (some (V.tup [V.int .i64 x63, V.int .i64 x64, V.osl
 x65 x66])))))
theorem e32 (k m q0 q1 : Nat) (y1 : Nat) (y2 : List V) (y3 : Int) (y4 : Nat) (y5 : List V) : runW C (k + 1) 32 [] [V.ptr 0 0, V.sl y1 y2] [Ob.box 29 [V.int .i64 y3, V.ref 1] false, Ob.row 52 y4 y5 false] = T32 (orc C k) k m q0 q1 y1 y2 y3 y4
 y5 := by kernel_rfl
theorem E32 (y1 : Nat) (y2 : List V) (y3 : Int) (y4 : Nat) (y5 : List V) {r : V} (h : T32 (orcE C) 0 0 0 0 y1 y2 y3 y4 y5 = some r) : runWE C 32 [] [V.ptr 0 0, V.sl y1 y2] [Ob.box 29 [V.int .i64 y3, V.ref 1] false, Ob.row 52 y4 y5 false] =
 some r := ofW (F := fun s => T32 (orc C s.k) s.k s.m 0 0 y1 y2 y3 y4 y5) (fun k => e32 k k 0 0 y1 y2 y3 y4 y5) (by
  unfold T32
  exact
    cF (cF (cM ((cC))) (cM ((cI (fun _ => cM ((cN cR (fun _ => cT (fun _ => cI (fun _ => cM ((cN cR (fun _ => cT (fun _ => cI (fun _ => cN cR (fun _ => cT (fun _ => cI (fun _ => cL (fun _ _ => cF (cM ((cC))) (cN cR (fun _ => cT (fun _ => cB (fun
    _ => cF (cM ((cC))) (cF (cN cQ (fun _ => cT (fun _ => cI (fun _ => cI (fun _ => cO (fun _ _ => cM ((cC)))))))) (cF (cN cQ (fun _ => cT (fun _ => cI (fun _ => cI (fun _ => cO (fun _ _ => cM ((cC)))))))) (cN cQ (fun _ => cT (fun _ => cI
    (fun _ => cI (fun _ => cO (fun _ _ => cM ((cC))))))))))))))))))))))))))))))))) (cM ((cI (fun _ => cM ((cN cR (fun _ => cT (fun _ => cI (fun _ => cM ((cN cR (fun _ => cT (fun _ => cI (fun _ => cN cR (fun _ => cT (fun _ => cI (fun _ => cL
    (fun _ _ => cF (cM ((cC))) (cN cR (fun _ => cT (fun _ => cB (fun _ => cF (cM ((cC))) (cF (cN cQ (fun _ => cT (fun _ => cI (fun _ => cI (fun _ => cO (fun _ _ => cM ((cC)))))))) (cF (cN cQ (fun _ => cT (fun _ => cI (fun _ => cI (fun _ =>
    cO (fun _ _ => cM ((cC)))))))) (cN cQ (fun _ => cT (fun _ => cI (fun _ => cI (fun _ => cO (fun _ _ => cM ((cC))))))))))))))))))))))))))))))))) h

noncomputable def T33 (O : Orc) (k m q0 q1 : Nat) (y1 : Int) (y2 : Nat) (y3 : List V) (y4 : Int) : Option V := bif y4 != 0 then some (V.tup [V.int .i64 y4, V.int .i64 0, V.sl 0 []]) else some (V.tup [V.int .i64 0, V.int .i64 y1, V.sl y2 y3])
theorem e33 (k m q0 q1 : Nat) (y1 : Int) (y2 : Nat) (y3 : List V) (y4 : Int) : runV C (k + 1) 33 [V.agg [V.int .i64 y1, V.sl y2 y3], V.int .i64 y4] = T33 (orc C k) k m q0 q1 y1 y2 y3 y4 := by kernel_rfl
theorem E33 (y1 : Int) (y2 : Nat) (y3 : List V) (y4 : Int) {r : V} (h : T33 (orcE C) 0 0 0 0 y1 y2 y3 y4 = some r) : runE C 33 [V.agg [V.int .i64 y1, V.sl y2 y3], V.int .i64 y4] = some r := ofR (F := fun s => T33 (orc C s.k) s.k s.m 0 0 y1
 y2 y3 y4) (fun k => e33 k k 0 0 y1 y2 y3 y4) (by
  unfold T33
  exact
    cF (cC) (cC)) h

noncomputable def T35 (O : Orc) (k m q0 q1 : Nat) (y1 : Int) (y2 : Nat) (y3 : List V) (y4 : Nat) (y5 : List V) : Option V := need (O.R 0 23 [V.agg [V.int .i64 y1, V.sl y2 y3]]) fun x1 => asTup (some x1) fun x2 => PI.asInt .i64 x2[0]? fun x3
 => bif x3 != 0 then some (V.tup [V.int .i64 x3, V.int .i64 0, V.osl 0 []]) else need (O.R 0 59 [V.agg [V.int .i64 y1, V.sl y2 y3]]) fun x4 => asTup (some x4) fun x5 => PI.asInt .i64 x5[0]? fun x6 => asOsl x5[1]? fun x7 x8 => need (O.W 0 36
 [] [V.ptr 0 0, V.pin [V.sl y4 y5] 0] [Ob.box 29 [V.int .i64 x6, V.ref 1] false, Ob.row 52 x7 x8 false]) fun x9 => asTup (some x9) fun x10 => PI.asInt .i64 x10[0]? fun x11 => PI.asInt .i64 x10[1]? fun x12 => asOsl x10[2]? fun x13 x14 => bif
 x11 != 0 then some (V.tup [V.int .i64 x11, V.int .i64 0, V.osl 0 []]) else must (false || x14.all flatV) (some (V.tup [V.int .i64 0, V.int .i64 x12, V.osl x13 x14]))
theorem e35 (k m q0 q1 : Nat) (y1 : Int) (y2 : Nat) (y3 : List V) (y4 : Nat) (y5 : List V) : runV C (k + 1) 35 [V.agg [V.int .i64 y1, V.sl y2 y3], V.fn 36 [V.pin [V.sl y4 y5] 0]] = T35 (orc C k) k m q0 q1 y1 y2 y3 y4 y5 := by kernel_rfl
theorem E35 (y1 : Int) (y2 : Nat) (y3 : List V) (y4 : Nat) (y5 : List V) {r : V} (h : T35 (orcE C) 0 0 0 0 y1 y2 y3 y4 y5 = some r) : runE C 35 [V.agg [V.int .i64 y1, V.sl y2 y3], V.fn 36 [V.pin [V.sl y4 y5] 0]] = some r := ofR (F := fun s
 => T35 (orc C s.k) s.k s.m 0 0 y1 y2 y3 y4 y5) (fun k => e35 k k 0 0 y1 y2 y3 y4 y5) (by
  unfold T35
  exact
    cN cR (fun _ => cT (fun _ => cI (fun _ => cF (cC) (cN cR (fun _ => cT (fun _ => cI (fun _ => cO (fun _ _ => cN cQ (fun _ => cT (fun _ => cI (fun _ => cI (fun _ => cO (fun _ _ => cF (cC) (cM ((cC))))))))))))))))) h

noncomputable def T38 (O : Orc) (k m q0 q1 : Nat) (y1 : Nat) (y2 : List V) (y3 : Nat) (y4 : List V) : Option V := bif (↑y1 : Int) != (↑y3 : Int) then some (V.tup [V.bool false]) else O.L 0 38 0 [true, true, false, true] [] k [(0, V.sl y1
 y2), (1, V.sl y3 y4), (5, V.int .i64 0)] []
theorem e38 (k m q0 q1 : Nat) (y1 : Nat) (y2 : List V) (y3 : Nat) (y4 : List V) : runV C (k + 1) 38 [V.sl y1 y2, V.sl y3 y4] = T38 (orc C k) k m q0 q1 y1 y2 y3 y4 := by kernel_rfl
theorem E38 (y1 : Nat) (y2 : List V) (y3 : Nat) (y4 : List V) {r : V} (h : T38 (orcE C) 0 0 0 0 y1 y2 y3 y4 = some r) : runE C 38 [V.sl y1 y2, V.sl y3 y4] = some r := ofR (F := fun s => T38 (orc C s.k) s.k s.m 0 0 y1 y2 y3 y4) (fun k => e38
 k k 0 0 y1 y2 y3 y4) (by
  unfold T38
  exact
    cF (cC) (cD0 gK )) h

noncomputable def T13l1 (O : Orc) (k m q0 q1 : Nat) (y1 : Nat) (y2 : List V) (y3 : Nat) (y4 : List V) (y5 : Int) : Option V := bif decide (y5 < (↑y1 : Int)) then must (inB y5 y1) (PI.asInt .u8 y2[y5.toNat * 1]? fun x1 => must (inB y5 y3)
 (PI.asInt .u8 y4[y5.toNat * 1]? fun x2 => bif x1 != x2 then some (V.tup [V.bool false]) else O.L 0 13 0 [true, true, false, true] [] m [(0, V.sl y1 y2), (1, V.sl y3 y4), (5, V.int .i64 (IntKind.i64.wrap (y5 + 1)))] [])) else some (V.tup
 [V.bool true])
theorem e13l1 (k m q0 q1 : Nat) (y1 : Nat) (y2 : List V) (y3 : Nat) (y4 : List V) (y5 : Int) : runL C k 13 0 [true, true, false, true] [] (m + 1) [(0, V.sl y1 y2), (1, V.sl y3 y4), (5, V.int .i64 y5)] [] = T13l1 (orc C k) k m q0 q1 y1 y2 y3
 y4 y5 := by kernel_rfl
theorem E13l1 (y1 : Nat) (y2 : List V) (y3 : Nat) (y4 : List V) (y5 : Int) {r : V} (h : T13l1 (orcE C) 0 0 0 0 y1 y2 y3 y4 y5 = some r) : loopE C 13 0 [true, true, false, true] [] [(0, V.sl y1 y2), (1, V.sl y3 y4), (5, V.int .i64 y5)] [] =
 some r := ofL (j := 0) (F := fun s => T13l1 (orc C s.k) s.k s.m 0 0 y1 y2 y3 y4 y5) (fs0 fun k m => e13l1 k m 0 0 y1 y2 y3 y4 y5) (by
  unfold T13l1
  exact
    cF (cM ((cI (fun _ => cM ((cI (fun _ => cF (cC) (cD0 gM )))))))) (cC)) h

noncomputable def T39 (O : Orc) (k m q0 q1 : Nat) (y1 : Int) (y2 : Nat) (y3 : List V) : Option V := O.X 0 39 [0] [Ob.row 52 0 [] false] 0 [true, false, true] [] k [(0, V.ref 0), (1, V.int .i64 y1), (5, V.int .i64 0)] [Ob.row 52 y2 y3 false]
theorem e39 (k m q0 q1 : Nat) (y1 : Int) (y2 : Nat) (y3 : List V) : runW C (k + 1) 39 [0] [V.ref 0, V.int .i64 y1] [Ob.row 52 y2 y3 false] = T39 (orc C k) k m q0 q1 y1 y2 y3 := by kernel_rfl
theorem E39 (y1 : Int) (y2 : Nat) (y3 : List V) {r : V} (h : T39 (orcE C) 0 0 0 0 y1 y2 y3 = some r) : runWE C 39 [0] [V.ref 0, V.int .i64 y1] [Ob.row 52 y2 y3 false] = some r := ofW (F := fun s => T39 (orc C s.k) s.k s.m 0 0 y1 y2 y3) (fun
 k => e39 k k 0 0 y1 y2 y3) (by
  unfold T39
  exact
    cX0 gK ) h

noncomputable def T15l1 (O : Orc) (k m q0 q1 : Nat) (y1 : Int) (y2 : Int) (y3 : Nat) (y4 : List V) : Option V := bif decide (y2 < (↑y3 : Int)) then must (inB y2 y3) (must ([V.int .u8 (IntKind.u8.wrap y1)].length.beq 1 && (y2.toNat * 1 +
 [V.int .u8 (IntKind.u8.wrap y1)].length).ble y4.length) (O.X 0 15 [0] [Ob.row 5 0 [] false] 0 [true, false, true] [] m [(0, V.ref 0), (1, V.int .i64 (IntKind.i64.wrap (y1 + 1))), (5, V.int .i64 (IntKind.i64.wrap (y2 + 1)))] [Ob.row 5 y3
 (splice y4 (y2.toNat * 1) [V.int .u8 (IntKind.u8.wrap y1)]) false])) else must (false || y4.all flatV) (some (V.tup [V.int .i64 y1, V.osl y3 y4]))
theorem e15l1 (k m q0 q1 : Nat) (y1 : Int) (y2 : Int) (y3 : Nat) (y4 : List V) : runLW C k 15 [0] [Ob.row 5 0 [] false] 0 [true, false, true] [] (m + 1) [(0, V.ref 0), (1, V.int .i64 y1), (5, V.int .i64 y2)] [Ob.row 5 y3 y4 false] = T15l1
 (orc C k) k m q0 q1 y1 y2 y3 y4 := by kernel_rfl
theorem E15l1 (y1 : Int) (y2 : Int) (y3 : Nat) (y4 : List V) {r : V} (h : T15l1 (orcE C) 0 0 0 0 y1 y2 y3 y4 = some r) : loopWE C 15 [0] [Ob.row 5 0 [] false] 0 [true, false, true] [] [(0, V.ref 0), (1, V.int .i64 y1), (5, V.int .i64 y2)]
 [Ob.row 5 y3 y4 false] = some r := ofX (j := 0) (F := fun s => T15l1 (orc C s.k) s.k s.m 0 0 y1 y2 y3 y4) (fs0 fun k m => e15l1 k m 0 0 y1 y2 y3 y4) (by
  unfold T15l1
  exact
    cF (cM ((cM ((cX0 gM ))))) (cM ((cC)))) h

noncomputable def T40 (O : Orc) (k m q0 q1 : Nat) (y1 : Int) (y2 : Nat) (y3 : List V) (y4 : Int) : Option V := need (O.R 0 65 [V.sl y2 y3, V.int .i64 y4]) fun x1 => asTup (some x1) fun x2 => PI.asInt .i64 x2[0]? fun x3 => bif decide (x3 < 0)
 then some (V.tup [V.int .i64 (-1)]) else some (V.tup [V.int .i64 x3])
theorem e40 (k m q0 q1 : Nat) (y1 : Int) (y2 : Nat) (y3 : List V) (y4 : Int) : runV C (k + 1) 40 [V.agg [V.int .i64 y1, V.sl y2 y3], V.int .i64 y4] = T40 (orc C k) k m q0 q1 y1 y2 y3 y4 := by kernel_rfl
theorem E40 (y1 : Int) (y2 : Nat) (y3 : List V) (y4 : Int) {r : V} (h : T40 (orcE C) 0 0 0 0 y1 y2 y3 y4 = some r) : runE C 40 [V.agg [V.int .i64 y1, V.sl y2 y3], V.int .i64 y4] = some r := ofR (F := fun s => T40 (orc C s.k) s.k s.m 0 0 y1
 y2 y3 y4) (fun k => e40 k k 0 0 y1 y2 y3 y4) (by
  unfold T40
  exact
    cN cR (fun _ => cT (fun _ => cI (fun _ => cF (cC) (cC))))) h

noncomputable def T34l1 (O : Orc) (k m q0 q1 : Nat) (y1 : Nat) (y2 : List V) (y3 : Int) (y4 : Nat) (y5 : List V) : Option V := bif decide (y3 < (↑y1 : Int)) then must (inB y3 y1) (PI.asInt .i64 y2[y3.toNat * 3]? fun x1 => PI.asInt .i64
 y2[y3.toNat * 3 + 1]? fun x2 => PI.asInt .i64 y2[y3.toNat * 3 + 1 + 1]? fun x3 => need (O.R 0 58 [V.agg [V.int .i64 x1, V.int .i64 x2, V.int .i64 x3]]) fun x4 => asTup (some x4) fun x5 => PI.asInt .i64 x5[0]? fun x6 => PI.asInt .i64 x5[1]?
 fun x7 => PI.asInt .i64 x5[2]? fun x8 => must (inB y3 y4) (must ([V.int .i64 x6, V.int .i64 x7, V.int .i64 x8].length.beq 3 && (y3.toNat * 3 + [V.int .i64 x6, V.int .i64 x7, V.int .i64 x8].length).ble y5.length) (O.L 0 34 0 [true, true,
 false, true] [] m [(0, V.sl y1 y2), (3, V.ref 0), (4, V.int .i64 (IntKind.i64.wrap (y3 + 1)))] [Ob.row 52 y4 (splice y5 (y3.toNat * 3) [V.int .i64 x6, V.int .i64 x7, V.int .i64 x8]) false]))) else must (false || y5.all flatV) (some (V.tup
 [V.osl y4 y5]))
theorem e34l1 (k m q0 q1 : Nat) (y1 : Nat) (y2 : List V) (y3 : Int) (y4 : Nat) (y5 : List V) : runL C k 34 0 [true, true, false, true] [] (m + 1) [(0, V.sl y1 y2), (3, V.ref 0), (4, V.int .i64 y3)] [Ob.row 52 y4 y5 false] = T34l1 (orc C k) k
 m q0 q1 y1 y2 y3 y4 y5 := by kernel_rfl
theorem E34l1 (y1 : Nat) (y2 : List V) (y3 : Int) (y4 : Nat) (y5 : List V) {r : V} (h : T34l1 (orcE C) 0 0 0 0 y1 y2 y3 y4 y5 = some r) : loopE C 34 0 [true, true, false, true] [] [(0, V.sl y1 y2), (3, V.ref 0), (4, V.int .i64 y3)] [Ob.row
 52 y4 y5 false] = some r := ofL (j := 0) (F := fun s => T34l1 (orc C s.k) s.k s.m 0 0 y1 y2 y3 y4 y5) (fs0 fun k m => e34l1 k m 0 0 y1 y2 y3 y4 y5) (by
  unfold T34l1
  exact
    cF (cM ((cI (fun _ => cI (fun _ => cI (fun _ => cN cR (fun _ => cT (fun _ => cI (fun _ => cI (fun _ => cI (fun _ => cM ((cM ((cD0 gM ))))))))))))))) (cM ((cC)))) h

noncomputable def T51 (O : Orc) (k m q0 q1 : Nat) (y1 : Int) (y2 : Int) (y3 : Int) : Option V := bif decide (y1 ≥ y2) then some (V.tup [V.bool (decide (y1 ≤ y3))]) else some (V.tup [V.bool false])
theorem e51 (k m q0 q1 : Nat) (y1 : Int) (y2 : Int) (y3 : Int) : runV C (k + 1) 51 [V.int .i64 y1, V.int .i64 y2, V.int .i64 y3] = T51 (orc C k) k m q0 q1 y1 y2 y3 := by kernel_rfl
theorem E51 (y1 : Int) (y2 : Int) (y3 : Int) {r : V} (h : T51 (orcE C) 0 0 0 0 y1 y2 y3 = some r) : runE C 51 [V.int .i64 y1, V.int .i64 y2, V.int .i64 y3] = some r := ofR (F := fun s => T51 (orc C s.k) s.k s.m 0 0 y1 y2 y3) (fun k => e51 k
 k 0 0 y1 y2 y3) (by
  unfold T51
  exact
    cF (cC) (cC)) h

noncomputable def T30l1 (O : Orc) (k m q0 q1 : Nat) (y1 : Int) (y2 : Int) (y3 : Nat) (y4 : List V) : Option V := bif decide (y1 < (↑y3 : Int)) then must (inB y1 y3) (PI.asInt .i64 y4[y1.toNat * 3]? fun x1 => PI.asInt .i64 y4[y1.toNat * 3 +
 1]? fun x2 => PI.asInt .i64 y4[y1.toNat * 3 + 1 + 1]? fun x3 => need (O.R 0 51 [V.int .i64 x1, V.int .i64 1, V.int .i64 y2]) fun x4 => asTup (some x4) fun x5 => PI.asBool x5[0]? fun x6 => bif !x6 then some (V.tup [V.int .i64 3]) else need
 (O.R 0 51 [V.int .i64 x2, V.int .i64 0, V.int .i64 8]) fun x7 => asTup (some x7) fun x8 => PI.asBool x8[0]? fun x9 => bif !x9 then some (V.tup [V.int .i64 3]) else need (O.R 0 51 [V.int .i64 x3, V.int .i64 0, V.int .i64 2199023255552]) fun
 x10 => asTup (some x10) fun x11 => PI.asBool x11[0]? fun x12 => bif !x12 then some (V.tup [V.int .i64 3]) else bif decide (y1 > 0) then must (inB (IntKind.i64.wrap (y1 - 1)) y3) (PI.asInt .i64 y4[(IntKind.i64.wrap (y1 - 1)).toNat * 3 + 0]?
 fun x13 => bif decide (x1 ≤ x13) then some (V.tup [V.int .i64 1]) else O.L 0 30 0 [true, true, true, false, true] [] m [(1, V.ptr 0 0), (3, V.int .i64 (IntKind.i64.wrap (y1 + 1)))] [Ob.box 29 [V.int .i64 y2, V.sl y3 y4] false]) else O.L 0
 30 0 [true, true, true, false, true] [] m [(1, V.ptr 0 0), (3, V.int .i64 (IntKind.i64.wrap (y1 + 1)))] [Ob.box 29 [V.int .i64 y2, V.sl y3 y4] false]) else some (V.tup [V.int .i64 0])
theorem e30l1 (k m q0 q1 : Nat) (y1 : Int) (y2 : Int) (y3 : Nat) (y4 : List V) : runL C k 30 0 [true, true, true, false, true] [] (m + 1) [(1, V.ptr 0 0), (3, V.int .i64 y1)] [Ob.box 29 [V.int .i64 y2, V.sl y3 y4] false] = T30l1 (orc C k) k
 m q0 q1 y1 y2 y3 y4 := by kernel_rfl
theorem E30l1 (y1 : Int) (y2 : Int) (y3 : Nat) (y4 : List V) {r : V} (h : T30l1 (orcE C) 0 0 0 0 y1 y2 y3 y4 = some r) : loopE C 30 0 [true, true, true, false, true] [] [(1, V.ptr 0 0), (3, V.int .i64 y1)] [Ob.box 29 [V.int .i64 y2, V.sl y3
 y4] false] = some r := ofL (j := 0) (F := fun s => T30l1 (orc C s.k) s.k s.m 0 0 y1 y2 y3 y4) (fs0 fun k m => e30l1 k m 0 0 y1 y2 y3 y4) (by
  unfold T30l1
  exact
    cF (cM ((cI (fun _ => cI (fun _ => cI (fun _ => cN cR (fun _ => cT (fun _ => cB (fun _ => cF (cC) (cN cR (fun _ => cT (fun _ => cB (fun _ => cF (cC) (cN cR (fun _ => cT (fun _ => cB (fun _ => cF (cC) (cF (cM ((cI (fun _ => cF (cC) (cD0 gM
    ))))) (cD0 gM ))))))))))))))))))) (cC)) h

noncomputable def T52 (O : Orc) (k m q0 q1 : Nat) (y1 : Nat) (y2 : List V) : Option V := O.L 0 52 0 [true, true, false, true] [] k [(0, V.sl y1 y2), (3, V.int .i64 0), (4, V.int .i64 0)] []
theorem e52 (k m q0 q1 : Nat) (y1 : Nat) (y2 : List V) : runV C (k + 1) 52 [V.sl y1 y2] = T52 (orc C k) k m q0 q1 y1 y2 := by kernel_rfl
theorem E52 (y1 : Nat) (y2 : List V) {r : V} (h : T52 (orcE C) 0 0 0 0 y1 y2 = some r) : runE C 52 [V.sl y1 y2] = some r := ofR (F := fun s => T52 (orc C s.k) s.k s.m 0 0 y1 y2) (fun k => e52 k k 0 0 y1 y2) (by
  unfold T52
  exact
    cD0 gK ) h

noncomputable def T53 (O : Orc) (k m q0 q1 : Nat) (y1 : Int) (y2 : Int) (y3 : Int) : Option V := need (O.R 0 51 [V.int .i64 y1, V.int .i64 1, V.int .i64 3]) fun x1 => asTup (some x1) fun x2 => PI.asBool x2[0]? fun x3 => bif !x3 then some
 (V.tup [V.int .i64 1, V.sl 0 []]) else need (O.R 0 51 [V.int .i64 y2, V.int .i64 1, V.int .i64 1000000]) fun x4 => asTup (some x4) fun x5 => PI.asBool x5[0]? fun x6 => bif !x6 then some (V.tup [V.int .i64 3, V.sl 0 []]) else need (O.R 0 51
 [V.int .i64 y3, V.int .i64 0, V.int .i64 1099511627776]) fun x7 => asTup (some x7) fun x8 => PI.asBool x8[0]? fun x9 => bif !x9 then some (V.tup [V.int .i64 3, V.sl 0 []]) else bif y1 != 2 then bif y3 != 0 then some (V.tup [V.int .i64 1,
 V.sl 0 []]) else need (O.R 0 74 [V.int .i64 y1, V.int .i64 y2, V.int .i64 y3]) fun x10 => asTup (some x10) fun x11 => asSl x11[0]? fun x12 x13 => some (V.tup [V.int .i64 0, V.sl x12 x13]) else need (O.R 0 74 [V.int .i64 y1, V.int .i64 y2,
 V.int .i64 y3]) fun x14 => asTup (some x14) fun x15 => asSl x15[0]? fun x16 x17 => some (V.tup [V.int .i64 0, V.sl x16 x17])
theorem e53 (k m q0 q1 : Nat) (y1 : Int) (y2 : Int) (y3 : Int) : runV C (k + 1) 53 [V.int .i64 y1, V.int .i64 y2, V.int .i64 y3] = T53 (orc C k) k m q0 q1 y1 y2 y3 := by kernel_rfl
theorem E53 (y1 : Int) (y2 : Int) (y3 : Int) {r : V} (h : T53 (orcE C) 0 0 0 0 y1 y2 y3 = some r) : runE C 53 [V.int .i64 y1, V.int .i64 y2, V.int .i64 y3] = some r := ofR (F := fun s => T53 (orc C s.k) s.k s.m 0 0 y1 y2 y3) (fun k => e53 k
 k 0 0 y1 y2 y3) (by
  unfold T53
  exact
    cN cR (fun _ => cT (fun _ => cB (fun _ => cF (cC) (cN cR (fun _ => cT (fun _ => cB (fun _ => cF (cC) (cN cR (fun _ => cT (fun _ => cB (fun _ => cF (cC) (cF (cF (cC) (cN cR (fun _ => cT (fun _ => cL (fun _ _ => cC))))) (cN cR (fun _ => cT
    (fun _ => cL (fun _ _ => cC))))))))))))))))) h

noncomputable def T54 (O : Orc) (k m q0 q1 : Nat) (y1 : Nat) (y2 : List V) (y3 : Nat) (y4 : List V) : Option V := need (O.R 0 75 [V.sl y1 y2, V.sl y3 y4]) fun x1 => asTup (some x1) fun x2 => PI.asInt .i64 x2[0]? fun x3 => some (V.tup [V.bool
 (x3 == 0)])
theorem e54 (k m q0 q1 : Nat) (y1 : Nat) (y2 : List V) (y3 : Nat) (y4 : List V) : runV C (k + 1) 54 [V.sl y1 y2, V.sl y3 y4] = T54 (orc C k) k m q0 q1 y1 y2 y3 y4 := by kernel_rfl
theorem E54 (y1 : Nat) (y2 : List V) (y3 : Nat) (y4 : List V) {r : V} (h : T54 (orcE C) 0 0 0 0 y1 y2 y3 y4 = some r) : runE C 54 [V.sl y1 y2, V.sl y3 y4] = some r := ofR (F := fun s => T54 (orc C s.k) s.k s.m 0 0 y1 y2 y3 y4) (fun k => e54
 k k 0 0 y1 y2 y3 y4) (by
  unfold T54
  exact
    cN cR (fun _ => cT (fun _ => cI (fun _ => cC)))) h

noncomputable def T55 (O : Orc) (k m q0 q1 : Nat) (y1 : Int) (y2 : Int) (y3 : Nat) (y4 : List V) : Option V := bif y1 != IntKind.i64.wrap (y2 + 1) then must (false || y4.all flatV) (some (V.tup [V.int .i64 1, V.int .i64 y2, V.osl y3 y4]))
 else bif decide (y1 > 1000000) then must (false || y4.all flatV) (some (V.tup [V.int .i64 3, V.int .i64 y2, V.osl y3 y4])) else bif decide ((↑y3 : Int) ≥ 12) then must (false || y4.all flatV) (some (V.tup [V.int .i64 8, V.int .i64 y2, V.osl
 y3 y4])) else must (true && (y3 + 1).ble 140737488355328 && ((y3 + 1) * 24).ble 140737488355328) (must (false || (y4 ++ [V.int .i64 y1, V.int .i64 0, V.int .i64 0]).all flatV) (some (V.tup [V.int .i64 0, V.int .i64 y1, V.osl (y3 + 1) (y4 ++
 [V.int .i64 y1, V.int .i64 0, V.int .i64 0])])))
theorem e55 (k m q0 q1 : Nat) (y1 : Int) (y2 : Int) (y3 : Nat) (y4 : List V) : runW C (k + 1) 55 [] [V.ptr 0 0, V.int .i64 y1] [Ob.box 29 [V.int .i64 y2, V.ref 1] false, Ob.row 52 y3 y4 false] = T55 (orc C k) k m q0 q1 y1 y2 y3 y4 := by
 kernel_rfl
theorem E55 (y1 : Int) (y2 : Int) (y3 : Nat) (y4 : List V) {r : V} (h : T55 (orcE C) 0 0 0 0 y1 y2 y3 y4 = some r) : runWE C 55 [] [V.ptr 0 0, V.int .i64 y1] [Ob.box 29 [V.int .i64 y2, V.ref 1] false, Ob.row 52 y3 y4 false] = some r := ofW
 (F := fun s => T55 (orc C s.k) s.k s.m 0 0 y1 y2 y3 y4) (fun k => e55 k k 0 0 y1 y2 y3 y4) (by
  unfold T55
  exact
    cF (cM ((cC))) (cF (cM ((cC))) (cF (cM ((cC))) (cM ((cM ((cC)))))))) h

noncomputable def T56 (O : Orc) (k m q0 q1 : Nat) (y1 : Int) (y2 : Int) (y3 : Int) (y4 : Nat) (y5 : List V) : Option V := need (O.R 0 51 [V.int .i64 y2, V.int .i64 0, V.int .i64 1099511627776]) fun x1 => asTup (some x1) fun x2 => PI.asBool
 x2[0]? fun x3 => bif !x3 then must (false || y5.all flatV) (some (V.tup [V.int .i64 3, V.int .i64 y3, V.osl y4 y5])) else need (O.R 0 76 [V.pin [V.int .i64 y3, V.sl y4 y5] 0, V.int .i64 y1]) fun x4 => asTup (some x4) fun x5 => PI.asInt .i64
 x5[0]? fun x6 => bif decide (x6 < 0) then must (false || y5.all flatV) (some (V.tup [V.int .i64 4, V.int .i64 y3, V.osl y4 y5])) else must (inB x6 y4) (PI.asInt .i64 y5[x6.toNat * 3]? fun x7 => PI.asInt .i64 y5[x6.toNat * 3 + 1]? fun x8 =>
 PI.asInt .i64 y5[x6.toNat * 3 + 1 + 1]? fun x9 => need (O.R 0 77 [V.int .i64 8, V.int .i64 (IntKind.i64.wrap (x8 + 1))]) fun x10 => asTup (some x10) fun x11 => PI.asInt .i64 x11[0]? fun x12 => must (decide (0 ≤ IntKind.u64.wrap x12)) (must
 (inB x6 y4) (must ([V.int .i64 x7, V.int .i64 x12, V.int .i64 (IntKind.i64.wrap (y2 + IntKind.i64.wrap (1 * 2 ^ min (IntKind.u64.wrap x12).toNat 64)))].length.beq 3 && (x6.toNat * 3 + [V.int .i64 x7, V.int .i64 x12, V.int .i64
 (IntKind.i64.wrap (y2 + IntKind.i64.wrap (1 * 2 ^ min (IntKind.u64.wrap x12).toNat 64)))].length).ble y5.length) (must (false || (splice y5 (x6.toNat * 3) [V.int .i64 x7, V.int .i64 x12, V.int .i64 (IntKind.i64.wrap (y2 + IntKind.i64.wrap
 (1 * 2 ^ min (IntKind.u64.wrap x12).toNat 64)))]).all flatV) (some (V.tup [V.int .i64 0, V.int .i64 y3, V.osl y4 (splice y5 (x6.toNat * 3) [V.int .i64 x7, V.int .i64 x12, V.int .i64 (IntKind.i64.wrap (y2 + IntKind.i64.wrap (1 * 2 ^ min
 (IntKind.u64.wrap x12).toNat 64)))])]))))))
theorem e56 (k m q0 q1 : Nat) (y1 : Int) (y2 : Int) (y3 : Int) (y4 : Nat) (y5 : List V) : runW C (k + 1) 56 [] [V.ptr 0 0, V.int .i64 y1, V.int .i64 y2] [Ob.box 29 [V.int .i64 y3, V.ref 1] false, Ob.row 52 y4 y5 false] = T56 (orc C k) k m q0
 q1 y1 y2 y3 y4 y5 := by kernel_rfl
theorem E56 (y1 : Int) (y2 : Int) (y3 : Int) (y4 : Nat) (y5 : List V) {r : V} (h : T56 (orcE C) 0 0 0 0 y1 y2 y3 y4 y5 = some r) : runWE C 56 [] [V.ptr 0 0, V.int .i64 y1, V.int .i64 y2] [Ob.box 29 [V.int .i64 y3, V.ref 1] false, Ob.row 52
 y4 y5 false] = some r := ofW (F := fun s => T56 (orc C s.k) s.k s.m 0 0 y1 y2 y3 y4 y5) (fun k => e56 k k 0 0 y1 y2 y3 y4 y5) (by
  unfold T56
  exact
    cN cR (fun _ => cT (fun _ => cB (fun _ => cF (cM ((cC))) (cN cR (fun _ => cT (fun _ => cI (fun _ => cF (cM ((cC))) (cM ((cI (fun _ => cI (fun _ => cI (fun _ => cN cR (fun _ => cT (fun _ => cI (fun _ => cM ((cM ((cM ((cM
    ((cC))))))))))))))))))))))))) h

noncomputable def T57 (O : Orc) (k m q0 q1 : Nat) (y1 : Int) (y2 : Int) (y3 : Nat) (y4 : List V) : Option V := need (O.R 0 76 [V.pin [V.int .i64 y2, V.sl y3 y4] 0, V.int .i64 y1]) fun x1 => asTup (some x1) fun x2 => PI.asInt .i64 x2[0]? fun
 x3 => bif decide (x3 < 0) then must (false || y4.all flatV) (some (V.tup [V.int .i64 4, V.int .i64 y2, V.osl y3 y4])) else must (decide (0 ≤ x3) && decide (x3 ≤ (↑y3 : Int))) (must (decide (0 ≤ IntKind.i64.wrap (x3 + 1)) && decide
 (IntKind.i64.wrap (x3 + 1) ≤ (↑y3 : Int))) (must (decide ((List.take ((x3.toNat - 0) * 3) (List.drop 0 y4)).length = (x3.toNat - 0) * 3)) (must (true && (0 + (x3.toNat - 0)).ble 140737488355328 && ((0 + (x3.toNat - 0)) * 24).ble
 140737488355328) (must (decide ((List.take ((y3 - (IntKind.i64.wrap (x3 + 1)).toNat) * 3) (List.drop ((IntKind.i64.wrap (x3 + 1)).toNat * 3) y4)).length = (y3 - (IntKind.i64.wrap (x3 + 1)).toNat) * 3)) (must (true && (0 + (x3.toNat - 0) +
 (y3 - (IntKind.i64.wrap (x3 + 1)).toNat)).ble 140737488355328 && ((0 + (x3.toNat - 0) + (y3 - (IntKind.i64.wrap (x3 + 1)).toNat)) * 24).ble 140737488355328) (must (false || (List.take ((x3.toNat - 0) * 3) (List.drop 0 y4) ++ List.take ((y3
 - (IntKind.i64.wrap (x3 + 1)).toNat) * 3) (List.drop ((IntKind.i64.wrap (x3 + 1)).toNat * 3) y4)).all flatV) (some (V.tup [V.int .i64 0, V.int .i64 y2, V.osl (0 + (x3.toNat - 0) + (y3 - (IntKind.i64.wrap (x3 + 1)).toNat)) (List.take
 ((x3.toNat - 0) * 3) (List.drop 0 y4) ++ List.take ((y3 - (IntKind.i64.wrap (x3 + 1)).toNat) * 3) (List.drop ((IntKind.i64.wrap (x3 + 1)).toNat * 3) y4))]))))))))
theorem e57 (k m q0 q1 : Nat) (y1 : Int) (y2 : Int) (y3 : Nat) (y4 : List V) : runW C (k + 1) 57 [] [V.ptr 0 0, V.int .i64 y1] [Ob.box 29 [V.int .i64 y2, V.ref 1] false, Ob.row 52 y3 y4 false] = T57 (orc C k) k m q0 q1 y1 y2 y3 y4 := by
 kernel_rfl
theorem E57 (y1 : Int) (y2 : Int) (y3 : Nat) (y4 : List V) {r : V} (h : T57 (orcE C) 0 0 0 0 y1 y2 y3 y4 = some r) : runWE C 57 [] [V.ptr 0 0, V.int .i64 y1] [Ob.box 29 [V.int .i64 y2, V.ref 1] false, Ob.row 52 y3 y4 false] = some r := ofW
 (F := fun s => T57 (orc C s.k) s.k s.m 0 0 y1 y2 y3 y4) (fun k => e57 k k 0 0 y1 y2 y3 y4) (by
  unfold T57
  exact
    cN cR (fun _ => cT (fun _ => cI (fun _ => cF (cM ((cC))) (cM ((cM ((cM ((cM ((cM ((cM ((cM ((cC))))))))))))))))))) h

noncomputable def T23 (O : Orc) (k m q0 q1 : Nat) (y1 : Int) (y2 : Nat) (y3 : List V) : Option V := need (O.R 0 47 [V.int .i64 y1, V.int .i64 0, V.int .i64 1000000]) fun x1 => asTup (some x1) fun x2 => PI.asBool x2[0]? fun x3 => bif !x3 then
 some (V.tup [V.int .i64 3]) else bif decide ((↑y2 : Int) > 12) then some (V.tup [V.int .i64 2]) else O.L 0 23 1 [true, true, false, true] [] k [(1, V.ptr 0 0), (16, V.sl y2 y3), (17, V.int .i64 (↑y2 : Int)), (18, V.int .i64 0)] [Ob.box 29
 [V.int .i64 y1, V.sl y2 y3] false]
theorem e23 (k m q0 q1 : Nat) (y1 : Int) (y2 : Nat) (y3 : List V) : runV C (k + 1) 23 [V.agg [V.int .i64 y1, V.sl y2 y3]] = T23 (orc C k) k m q0 q1 y1 y2 y3 := by kernel_rfl
theorem E23 (y1 : Int) (y2 : Nat) (y3 : List V) {r : V} (h : T23 (orcE C) 0 0 0 0 y1 y2 y3 = some r) : runE C 23 [V.agg [V.int .i64 y1, V.sl y2 y3]] = some r := ofR (F := fun s => T23 (orc C s.k) s.k s.m 0 0 y1 y2 y3) (fun k => e23 k k 0 0
 y1 y2 y3) (by
  unfold T23
  exact
    cN cR (fun _ => cT (fun _ => cB (fun _ => cF (cC) (cF (cC) (cD0 gK )))))) h

noncomputable def T59 (O : Orc) (k m q0 q1 : Nat) (y1 : Int) (y2 : Nat) (y3 : List V) : Option V := need (O.R 0 78 [V.sl y2 y3]) fun x1 => asTup (some x1) fun x2 => asOsl x2[0]? fun x3 x4 => must (false || x4.all flatV) (some (V.tup [V.int
 .i64 y1, V.osl x3 x4]))
theorem e59 (k m q0 q1 : Nat) (y1 : Int) (y2 : Nat) (y3 : List V) : runV C (k + 1) 59 [V.agg [V.int .i64 y1, V.sl y2 y3]] = T59 (orc C k) k m q0 q1 y1 y2 y3 := by kernel_rfl
theorem E59 (y1 : Int) (y2 : Nat) (y3 : List V) {r : V} (h : T59 (orcE C) 0 0 0 0 y1 y2 y3 = some r) : runE C 59 [V.agg [V.int .i64 y1, V.sl y2 y3]] = some r := ofR (F := fun s => T59 (orc C s.k) s.k s.m 0 0 y1 y2 y3) (fun k => e59 k k 0 0
 y1 y2 y3) (by
  unfold T59
  exact
    cN cR (fun _ => cT (fun _ => cO (fun _ _ => cM ((cC)))))) h

noncomputable def T36 (O : Orc) (k m q0 q1 : Nat) (y1 : Nat) (y2 : List V) (y3 : Int) (y4 : Nat) (y5 : List V) : Option V := need (O.W 0 37 [] [V.ptr 0 0, V.sl y1 y2] [Ob.box 29 [V.int .i64 y3, V.ref 1] false, Ob.row 52 y4 y5 false]) fun x1
 => asTup (some x1) fun x2 => PI.asInt .i64 x2[0]? fun x3 => PI.asInt .i64 x2[1]? fun x4 => asOsl x2[2]? fun x5 x6 => must (false || x6.all flatV) (some (V.tup [V.int .i64 x3, V.int .i64 x4, V.osl x5 x6]))
theorem e36 (k m q0 q1 : Nat) (y1 : Nat) (y2 : List V) (y3 : Int) (y4 : Nat) (y5 : List V) : runW C (k + 1) 36 [] [V.ptr 0 0, V.pin [V.sl y1 y2] 0] [Ob.box 29 [V.int .i64 y3, V.ref 1] false, Ob.row 52 y4 y5 false] = T36 (orc C k) k m q0 q1
 y1 y2 y3 y4 y5 := by kernel_rfl
theorem E36 (y1 : Nat) (y2 : List V) (y3 : Int) (y4 : Nat) (y5 : List V) {r : V} (h : T36 (orcE C) 0 0 0 0 y1 y2 y3 y4 y5 = some r) : runWE C 36 [] [V.ptr 0 0, V.pin [V.sl y1 y2] 0] [Ob.box 29 [V.int .i64 y3, V.ref 1] false, Ob.row 52 y4 y5
 false] = some r := ofW (F := fun s => T36 (orc C s.k) s.k s.m 0 0 y1 y2 y3 y4 y5) (fun k => e36 k k 0 0 y1 y2 y3 y4 y5) (by
  unfold T36
  exact
    cN cQ (fun _ => cT (fun _ => cI (fun _ => cI (fun _ => cO (fun _ _ => cM ((cC)))))))) h

noncomputable def T38l1 (O : Orc) (k m q0 q1 : Nat) (y1 : Nat) (y2 : List V) (y3 : Nat) (y4 : List V) (y5 : Int) : Option V := bif decide (y5 < (↑y1 : Int)) then must (inB y5 y1) (PI.asInt .i64 y2[y5.toNat * 3]? fun x1 => PI.asInt .i64
 y2[y5.toNat * 3 + 1]? fun x2 => PI.asInt .i64 y2[y5.toNat * 3 + 1 + 1]? fun x3 => must (inB y5 y3) (PI.asInt .i64 y4[y5.toNat * 3]? fun x4 => PI.asInt .i64 y4[y5.toNat * 3 + 1]? fun x5 => PI.asInt .i64 y4[y5.toNat * 3 + 1 + 1]? fun x6 =>
 need (O.R 0 64 [V.agg [V.int .i64 x1, V.int .i64 x2, V.int .i64 x3], V.agg [V.int .i64 x4, V.int .i64 x5, V.int .i64 x6]]) fun x7 => asTup (some x7) fun x8 => PI.asBool x8[0]? fun x9 => bif !x9 then some (V.tup [V.bool false]) else O.L 0 38
 0 [true, true, false, true] [] m [(0, V.sl y1 y2), (1, V.sl y3 y4), (5, V.int .i64 (IntKind.i64.wrap (y5 + 1)))] [])) else some (V.tup [V.bool true])
theorem e38l1 (k m q0 q1 : Nat) (y1 : Nat) (y2 : List V) (y3 : Nat) (y4 : List V) (y5 : Int) : runL C k 38 0 [true, true, false, true] [] (m + 1) [(0, V.sl y1 y2), (1, V.sl y3 y4), (5, V.int .i64 y5)] [] = T38l1 (orc C k) k m q0 q1 y1 y2 y3
 y4 y5 := by kernel_rfl
theorem E38l1 (y1 : Nat) (y2 : List V) (y3 : Nat) (y4 : List V) (y5 : Int) {r : V} (h : T38l1 (orcE C) 0 0 0 0 y1 y2 y3 y4 y5 = some r) : loopE C 38 0 [true, true, false, true] [] [(0, V.sl y1 y2), (1, V.sl y3 y4), (5, V.int .i64 y5)] [] =
 some r := ofL (j := 0) (F := fun s => T38l1 (orc C s.k) s.k s.m 0 0 y1 y2 y3 y4 y5) (fs0 fun k m => e38l1 k m 0 0 y1 y2 y3 y4 y5) (by
  unfold T38l1
  exact
    cF (cM ((cI (fun _ => cI (fun _ => cI (fun _ => cM ((cI (fun _ => cI (fun _ => cI (fun _ => cN cR (fun _ => cT (fun _ => cB (fun _ => cF (cC) (cD0 gM ))))))))))))))) (cC)) h

noncomputable def T39l1 (O : Orc) (k m q0 q1 : Nat) (y1 : Int) (y2 : Int) (y3 : Nat) (y4 : List V) : Option V := bif decide (y2 < (↑y3 : Int)) then must (inB y2 y3) (must ([V.int .i64 y1].length.beq 1 && (y2.toNat * 3 + 0 + [V.int .i64
 y1].length).ble y4.length) (must (inB y2 y3) (must ([V.int .i64 (IntKind.i64.wrap (y1 + 1))].length.beq 1 && (y2.toNat * 3 + 1 + [V.int .i64 (IntKind.i64.wrap (y1 + 1))].length).ble (splice y4 (y2.toNat * 3 + 0) [V.int .i64 y1]).length)
 (must (inB y2 y3) (must ([V.int .i64 (IntKind.i64.wrap (IntKind.i64.wrap (y1 + 1) + 1))].length.beq 1 && (y2.toNat * 3 + 2 + [V.int .i64 (IntKind.i64.wrap (IntKind.i64.wrap (y1 + 1) + 1))].length).ble (splice (splice y4 (y2.toNat * 3 + 0)
 [V.int .i64 y1]) (y2.toNat * 3 + 1) [V.int .i64 (IntKind.i64.wrap (y1 + 1))]).length) (O.X 0 39 [0] [Ob.row 52 0 [] false] 0 [true, false, true] [] m [(0, V.ref 0), (1, V.int .i64 (IntKind.i64.wrap (IntKind.i64.wrap (IntKind.i64.wrap (y1 +
 1) + 1) + 1))), (5, V.int .i64 (IntKind.i64.wrap (y2 + 1)))] [Ob.row 52 y3 (splice (splice (splice y4 (y2.toNat * 3 + 0) [V.int .i64 y1]) (y2.toNat * 3 + 1) [V.int .i64 (IntKind.i64.wrap (y1 + 1))]) (y2.toNat * 3 + 2) [V.int .i64
 (IntKind.i64.wrap (IntKind.i64.wrap (y1 + 1) + 1))]) false])))))) else must (false || y4.all flatV) (some (V.tup [V.int .i64 y1, V.osl y3 y4]))
theorem e39l1 (k m q0 q1 : Nat) (y1 : Int) (y2 : Int) (y3 : Nat) (y4 : List V) : runLW C k 39 [0] [Ob.row 52 0 [] false] 0 [true, false, true] [] (m + 1) [(0, V.ref 0), (1, V.int .i64 y1), (5, V.int .i64 y2)] [Ob.row 52 y3 y4 false] = T39l1
 (orc C k) k m q0 q1 y1 y2 y3 y4 := by kernel_rfl
theorem E39l1 (y1 : Int) (y2 : Int) (y3 : Nat) (y4 : List V) {r : V} (h : T39l1 (orcE C) 0 0 0 0 y1 y2 y3 y4 = some r) : loopWE C 39 [0] [Ob.row 52 0 [] false] 0 [true, false, true] [] [(0, V.ref 0), (1, V.int .i64 y1), (5, V.int .i64 y2)]
 [Ob.row 52 y3 y4 false] = some r := ofX (j := 0) (F := fun s => T39l1 (orc C s.k) s.k s.m 0 0 y1 y2 y3 y4) (fs0 fun k m => e39l1 k m 0 0 y1 y2 y3 y4) (by
  unfold T39l1
  exact
    cF (cM ((cM ((cM ((cM ((cM ((cM ((cX0 gM ))))))))))))) (cM ((cC)))) h

noncomputable def T65 (O : Orc) (k m q0 q1 : Nat) (y1 : Nat) (y2 : List V) (y3 : Int) : Option V := O.L 0 65 0 [true, false, true] [] k [(0, V.sl y1 y2), (1, V.int .i64 y3), (5, V.int .i64 0)] []
theorem e65 (k m q0 q1 : Nat) (y1 : Nat) (y2 : List V) (y3 : Int) : runV C (k + 1) 65 [V.sl y1 y2, V.int .i64 y3] = T65 (orc C k) k m q0 q1 y1 y2 y3 := by kernel_rfl
theorem E65 (y1 : Nat) (y2 : List V) (y3 : Int) {r : V} (h : T65 (orcE C) 0 0 0 0 y1 y2 y3 = some r) : runE C 65 [V.sl y1 y2, V.int .i64 y3] = some r := ofR (F := fun s => T65 (orc C s.k) s.k s.m 0 0 y1 y2 y3) (fun k => e65 k k 0 0 y1 y2 y3)
 (by
  unfold T65
  exact
    cD0 gK ) h

noncomputable def T58 (O : Orc) (k m q0 q1 : Nat) (y1 : Int) (y2 : Int) (y3 : Int) : Option V := some (V.tup [V.int .i64 y1, V.int .i64 y2, V.int .i64 y3])
theorem e58 (k m q0 q1 : Nat) (y1 : Int) (y2 : Int) (y3 : Int) : runV C (k + 1) 58 [V.agg [V.int .i64 y1, V.int .i64 y2, V.int .i64 y3]] = T58 (orc C k) k m q0 q1 y1 y2 y3 := by kernel_rfl
theorem E58 (y1 : Int) (y2 : Int) (y3 : Int) {r : V} (h : T58 (orcE C) 0 0 0 0 y1 y2 y3 = some r) : runE C 58 [V.agg [V.int .i64 y1, V.int .i64 y2, V.int .i64 y3]] = some r := ofR (F := fun s => T58 (orc C s.k) s.k s.m 0 0 y1 y2 y3) (fun k
 => e58 k k 0 0 y1 y2 y3) (by
  unfold T58
  exact
    cC) h

noncomputable def T52l1 (O : Orc) (k m q0 q1 : Nat) (y1 : Nat) (y2 : List V) (y3 : Int) (y4 : Int) : Option V := bif decide (y4 < (↑y1 : Int)) then must (inB y4 y1) (PI.asInt .u8 y2[y4.toNat * 1]? fun x1 => O.L 0 52 0 [true, true, false,
 true] [] m [(0, V.sl y1 y2), (3, V.int .i64 (IntKind.i64.wrap (IntKind.i64.wrap (y3 * 256) + IntKind.i64.wrap x1))), (4, V.int .i64 (IntKind.i64.wrap (y4 + 1)))] []) else some (V.tup [V.int .i64 y3])
theorem e52l1 (k m q0 q1 : Nat) (y1 : Nat) (y2 : List V) (y3 : Int) (y4 : Int) : runL C k 52 0 [true, true, false, true] [] (m + 1) [(0, V.sl y1 y2), (3, V.int .i64 y3), (4, V.int .i64 y4)] [] = T52l1 (orc C k) k m q0 q1 y1 y2 y3 y4 := by
 kernel_rfl
theorem E52l1 (y1 : Nat) (y2 : List V) (y3 : Int) (y4 : Int) {r : V} (h : T52l1 (orcE C) 0 0 0 0 y1 y2 y3 y4 = some r) : loopE C 52 0 [true, true, false, true] [] [(0, V.sl y1 y2), (3, V.int .i64 y3), (4, V.int .i64 y4)] [] = some r := ofL
 (j := 0) (F := fun s => T52l1 (orc C s.k) s.k s.m 0 0 y1 y2 y3 y4) (fs0 fun k m => e52l1 k m 0 0 y1 y2 y3 y4) (by
  unfold T52l1
  exact
    cF (cM ((cI (fun _ => cD0 gM )))) (cC)) h

noncomputable def T74 (O : Orc) (k m q0 q1 : Nat) (y1 : Int) (y2 : Int) (y3 : Int) : Option V := need (O.R 0 92 [V.int .i64 y2]) fun x1 => asTup (some x1) fun x2 => asSl x2[0]? fun x3 x4 => must (decide (x4.length = x3 * 1)) (must (true &&
 (1 + x3).ble 140737488355328 && ((1 + x3) * 1).ble 140737488355328) (bif y1 == 2 then need (O.R 0 92 [V.int .i64 y3]) fun x5 => asTup (some x5) fun x6 => asSl x6[0]? fun x7 x8 => must (decide (x8.length = x7 * 1)) (must (true && (1 + x3 +
 x7).ble 140737488355328 && ((1 + x3 + x7) * 1).ble 140737488355328) (some (V.tup [V.sl (1 + x3 + x7) (V.int .u8 (IntKind.u8.wrap y1) :: x4 ++ x8)]))) else some (V.tup [V.sl (1 + x3) (V.int .u8 (IntKind.u8.wrap y1) :: x4)])))
theorem e74 (k m q0 q1 : Nat) (y1 : Int) (y2 : Int) (y3 : Int) : runV C (k + 1) 74 [V.int .i64 y1, V.int .i64 y2, V.int .i64 y3] = T74 (orc C k) k m q0 q1 y1 y2 y3 := by kernel_rfl
theorem E74 (y1 : Int) (y2 : Int) (y3 : Int) {r : V} (h : T74 (orcE C) 0 0 0 0 y1 y2 y3 = some r) : runE C 74 [V.int .i64 y1, V.int .i64 y2, V.int .i64 y3] = some r := ofR (F := fun s => T74 (orc C s.k) s.k s.m 0 0 y1 y2 y3) (fun k => e74 k
 k 0 0 y1 y2 y3) (by
  unfold T74
  exact
    cN cR (fun _ => cT (fun _ => cL (fun _ _ => cM ((cM ((cF (cN cR (fun _ => cT (fun _ => cL (fun _ _ => cM ((cM ((cC)))))))) (cC))))))))) h

noncomputable def T75 (O : Orc) (k m q0 q1 : Nat) (y1 : Nat) (y2 : List V) (y3 : Nat) (y4 : List V) : Option V := O.L 0 75 0 [true, false, true] [] k [(0, V.sl y1 y2), (1, V.sl y3 y4), (5, V.int .i64 0)] []
theorem e75 (k m q0 q1 : Nat) (y1 : Nat) (y2 : List V) (y3 : Nat) (y4 : List V) : runV C (k + 1) 75 [V.sl y1 y2, V.sl y3 y4] = T75 (orc C k) k m q0 q1 y1 y2 y3 y4 := by kernel_rfl
theorem E75 (y1 : Nat) (y2 : List V) (y3 : Nat) (y4 : List V) {r : V} (h : T75 (orcE C) 0 0 0 0 y1 y2 y3 y4 = some r) : runE C 75 [V.sl y1 y2, V.sl y3 y4] = some r := ofR (F := fun s => T75 (orc C s.k) s.k s.m 0 0 y1 y2 y3 y4) (fun k => e75
 k k 0 0 y1 y2 y3 y4) (by
  unfold T75
  exact
    cD0 gK ) h

noncomputable def T76 (O : Orc) (k m q0 q1 : Nat) (y1 : Int) (y2 : Nat) (y3 : List V) (y4 : Int) : Option V := O.L 0 76 0 [true, false, true] [] k [(0, V.pin [V.int .i64 y1, V.sl y2 y3] 0), (1, V.int .i64 y4), (5, V.int .i64 0)] []
theorem e76 (k m q0 q1 : Nat) (y1 : Int) (y2 : Nat) (y3 : List V) (y4 : Int) : runV C (k + 1) 76 [V.pin [V.int .i64 y1, V.sl y2 y3] 0, V.int .i64 y4] = T76 (orc C k) k m q0 q1 y1 y2 y3 y4 := by kernel_rfl
theorem E76 (y1 : Int) (y2 : Nat) (y3 : List V) (y4 : Int) {r : V} (h : T76 (orcE C) 0 0 0 0 y1 y2 y3 y4 = some r) : runE C 76 [V.pin [V.int .i64 y1, V.sl y2 y3] 0, V.int .i64 y4] = some r := ofR (F := fun s => T76 (orc C s.k) s.k s.m 0 0 y1
 y2 y3 y4) (fun k => e76 k k 0 0 y1 y2 y3 y4) (by
  unfold T76
  exact
    cD0 gK ) h

noncomputable def T77 (O : Orc) (k m q0 q1 : Nat) (y1 : Int) (y2 : Int) : Option V := bif decide (y1 < y2) then some (V.tup [V.int .i64 y1]) else some (V.tup [V.int .i64 y2])
theorem e77 (k m q0 q1 : Nat) (y1 : Int) (y2 : Int) : runV C (k + 1) 77 [V.int .i64 y1, V.int .i64 y2] = T77 (orc C k) k m q0 q1 y1 y2 := by kernel_rfl
theorem E77 (y1 : Int) (y2 : Int) {r : V} (h : T77 (orcE C) 0 0 0 0 y1 y2 = some r) : runE C 77 [V.int .i64 y1, V.int .i64 y2] = some r := ofR (F := fun s => T77 (orc C s.k) s.k s.m 0 0 y1 y2) (fun k => e77 k k 0 0 y1 y2) (by
  unfold T77
  exact
    cF (cC) (cC)) h

noncomputable def T47 (O : Orc) (k m q0 q1 : Nat) (y1 : Int) (y2 : Int) (y3 : Int) : Option V := bif decide (y2 ≤ y1) then some (V.tup [V.bool (decide (y1 ≤ y3))]) else some (V.tup [V.bool false])
theorem e47 (k m q0 q1 : Nat) (y1 : Int) (y2 : Int) (y3 : Int) : runV C (k + 1) 47 [V.int .i64 y1, V.int .i64 y2, V.int .i64 y3] = T47 (orc C k) k m q0 q1 y1 y2 y3 := by kernel_rfl
theorem E47 (y1 : Int) (y2 : Int) (y3 : Int) {r : V} (h : T47 (orcE C) 0 0 0 0 y1 y2 y3 = some r) : runE C 47 [V.int .i64 y1, V.int .i64 y2, V.int .i64 y3] = some r := ofR (F := fun s => T47 (orc C s.k) s.k s.m 0 0 y1 y2 y3) (fun k => e47 k
 k 0 0 y1 y2 y3) (by
  unfold T47
  exact
    cF (cC) (cC)) h

noncomputable def T23l1 (O : Orc) (k m q0 q1 : Nat) (y1 : Nat) (y2 : List V) (y3 : Int) (y4 : Int) (y5 : Int) (y6 : Nat) (y7 : List V) : Option V := bif decide (y4 < y3) then must (inB y4 y1) (PI.asInt .i64 y2[y4.toNat * 3]? fun x1 =>
 PI.asInt .i64 y2[y4.toNat * 3 + 1]? fun x2 => PI.asInt .i64 y2[y4.toNat * 3 + 1 + 1]? fun x3 => need (O.R 0 47 [V.int .i64 x1, V.int .i64 1, V.int .i64 y5]) fun x4 => asTup (some x4) fun x5 => PI.asBool x5[0]? fun x6 => bif !x6 then some
 (V.tup [V.int .i64 3]) else need (O.R 0 47 [V.int .i64 x2, V.int .i64 0, V.int .i64 8]) fun x7 => asTup (some x7) fun x8 => PI.asBool x8[0]? fun x9 => bif !x9 then some (V.tup [V.int .i64 3]) else need (O.R 0 47 [V.int .i64 x3, V.int .i64
 0, V.int .i64 2199023255552]) fun x10 => asTup (some x10) fun x11 => PI.asBool x11[0]? fun x12 => bif !x12 then some (V.tup [V.int .i64 3]) else bif decide (y4 > 0) then must (inB (IntKind.i64.wrap (y4 - 1)) y6) (PI.asInt .i64
 y7[(IntKind.i64.wrap (y4 - 1)).toNat * 3 + 0]? fun x13 => bif decide (x13 ≥ x1) then some (V.tup [V.int .i64 1]) else O.L 0 23 1 [true, true, false, true] [] m [(1, V.ptr 0 0), (16, V.sl y1 y2), (17, V.int .i64 y3), (18, V.int .i64
 (IntKind.i64.wrap (y4 + 1)))] [Ob.box 29 [V.int .i64 y5, V.sl y6 y7] false]) else O.L 0 23 1 [true, true, false, true] [] m [(1, V.ptr 0 0), (16, V.sl y1 y2), (17, V.int .i64 y3), (18, V.int .i64 (IntKind.i64.wrap (y4 + 1)))] [Ob.box 29
 [V.int .i64 y5, V.sl y6 y7] false]) else some (V.tup [V.int .i64 0])
theorem e23l1 (k m q0 q1 : Nat) (y1 : Nat) (y2 : List V) (y3 : Int) (y4 : Int) (y5 : Int) (y6 : Nat) (y7 : List V) : runL C k 23 1 [true, true, false, true] [] (m + 1) [(1, V.ptr 0 0), (16, V.sl y1 y2), (17, V.int .i64 y3), (18, V.int .i64
 y4)] [Ob.box 29 [V.int .i64 y5, V.sl y6 y7] false] = T23l1 (orc C k) k m q0 q1 y1 y2 y3 y4 y5 y6 y7 := by kernel_rfl
theorem E23l1 (y1 : Nat) (y2 : List V) (y3 : Int) (y4 : Int) (y5 : Int) (y6 : Nat) (y7 : List V) {r : V} (h : T23l1 (orcE C) 0 0 0 0 y1 y2 y3 y4 y5 y6 y7 = some r) : loopE C 23 1 [true, true, false, true] [] [(1, V.ptr 0 0), (16, V.sl y1
 y2), (17, V.int .i64 y3), (18, V.int .i64 y4)] [Ob.box 29 [V.int .i64 y5, V.sl y6 y7] false] = some r := ofL (j := 0) (F := fun s => T23l1 (orc C s.k) s.k s.m 0 0 y1 y2 y3 y4 y5 y6 y7) (fs0 fun k m => e23l1 k m 0 0 y1 y2 y3 y4 y5 y6 y7) (by
  unfold T23l1
  exact
    cF (cM ((cI (fun _ => cI (fun _ => cI (fun _ => cN cR (fun _ => cT (fun _ => cB (fun _ => cF (cC) (cN cR (fun _ => cT (fun _ => cB (fun _ => cF (cC) (cN cR (fun _ => cT (fun _ => cB (fun _ => cF (cC) (cF (cM ((cI (fun _ => cF (cC) (cD0 gM
    ))))) (cD0 gM ))))))))))))))))))) (cC)) h

noncomputable def T78 (O : Orc) (k m q0 q1 : Nat) (y1 : Nat) (y2 : List V) : Option V := bif y1.beq (OfNat.ofNat 0) then both (some (V.tup [V.osl 0 []])) (must (decide (y2.length = y1 * 3)) (must (true && (0 + y1).ble 140737488355328 && ((0
 + y1) * 24).ble 140737488355328) (must (false || y2.all flatV) (some (V.tup [V.osl (0 + y1) y2]))))) else must (decide (y2.length = y1 * 3)) (must (true && (0 + y1).ble 140737488355328 && ((0 + y1) * 24).ble 140737488355328) (must (false ||
 y2.all flatV) (some (V.tup [V.osl (0 + y1) y2]))))
theorem e78 (k m q0 q1 : Nat) (y1 : Nat) (y2 : List V) : runV C (k + 1) 78 [V.sl y1 y2] = T78 (orc C k) k m q0 q1 y1 y2 := by kernel_rfl
theorem E78 (y1 : Nat) (y2 : List V) {r : V} (h : T78 (orcE C) 0 0 0 0 y1 y2 = some r) : runE C 78 [V.sl y1 y2] = some r := ofR (F := fun s => T78 (orc C s.k) s.k s.m 0 0 y1 y2) (fun k => e78 k k 0 0 y1 y2) (by
  unfold T78
  exact
    cF (cW ((cC)) ((cM ((cM ((cM ((cC))))))))) (cM ((cM ((cM ((cC)))))))) h

noncomputable def T37 (O : Orc) (k m q0 q1 : Nat) (y1 : Nat) (y2 : List V) (y3 : Int) (y4 : Nat) (y5 : List V) : Option V := need (O.R 0 60 [V.sl y1 y2]) fun x1 => asTup (some x1) fun x2 => PI.asInt .i64 x2[0]? fun x3 => PI.asInt .i64 x2[1]?
 fun x4 => PI.asInt .i64 x2[2]? fun x5 => PI.asBool x2[3]? fun x6 => bif !x6 then must (false || y5.all flatV) (some (V.tup [V.int .i64 5, V.int .i64 y3, V.osl y4 y5])) else bif x3 == 1 then need (O.W 0 61 [] [V.ptr 0 0, V.int .i64 x4]
 [Ob.box 29 [V.int .i64 y3, V.ref 1] false, Ob.row 52 y4 y5 false]) fun x7 => asTup (some x7) fun x8 => PI.asInt .i64 x8[0]? fun x9 => PI.asInt .i64 x8[1]? fun x10 => asOsl x8[2]? fun x11 x12 => must (false || x12.all flatV) (some (V.tup
 [V.int .i64 x9, V.int .i64 x10, V.osl x11 x12])) else bif x3 == 2 then need (O.W 0 62 [] [V.ptr 0 0, V.int .i64 x4, V.int .i64 x5] [Ob.box 29 [V.int .i64 y3, V.ref 1] false, Ob.row 52 y4 y5 false]) fun x13 => asTup (some x13) fun x14 =>
 PI.asInt .i64 x14[0]? fun x15 => PI.asInt .i64 x14[1]? fun x16 => asOsl x14[2]? fun x17 x18 => must (false || x18.all flatV) (some (V.tup [V.int .i64 x15, V.int .i64 x16, V.osl x17 x18])) else need (O.W 0 63 [] [V.ptr 0 0, V.int .i64 x4]
 [Ob.box 29 [V.int .i64 y3, V.ref 1] false, Ob.row 52 y4 y5 false]) fun x19 => asTup (some x19) fun x20 => PI.asInt .i64 x20[0]? fun x21 => PI.asInt .i64 x20[1]? fun x22 => asOsl x20[2]? fun x23 x24 => must (false || x24.all flatV) (some
 (V.tup [V.int .i64 x21, V.int .i64 x22, V.osl x23 x24]))
theorem e37 (k m q0 q1 : Nat) (y1 : Nat) (y2 : List V) (y3 : Int) (y4 : Nat) (y5 : List V) : runW C (k + 1) 37 [] [V.ptr 0 0, V.sl y1 y2] [Ob.box 29 [V.int .i64 y3, V.ref 1] false, Ob.row 52 y4 y5 false] = T37 (orc C k) k m q0 q1 y1 y2 y3 y4
 y5 := by kernel_rfl
theorem E37 (y1 : Nat) (y2 : List V) (y3 : Int) (y4 : Nat) (y5 : List V) {r : V} (h : T37 (orcE C) 0 0 0 0 y1 y2 y3 y4 y5 = some r) : runWE C 37 [] [V.ptr 0 0, V.sl y1 y2] [Ob.box 29 [V.int .i64 y3, V.ref 1] false, Ob.row 52 y4 y5 false] =
 some r := ofW (F := fun s => T37 (orc C s.k) s.k s.m 0 0 y1 y2 y3 y4 y5) (fun k => e37 k k 0 0 y1 y2 y3 y4 y5) (by
  unfold T37
  exact
    cN cR (fun _ => cT (fun _ => cI (fun _ => cI (fun _ => cI (fun _ => cB (fun _ => cF (cM ((cC))) (cF (cN cQ (fun _ => cT (fun _ => cI (fun _ => cI (fun _ => cO (fun _ _ => cM ((cC)))))))) (cF (cN cQ (fun _ => cT (fun _ => cI (fun _ => cI (fun
    _ => cO (fun _ _ => cM ((cC)))))))) (cN cQ (fun _ => cT (fun _ => cI (fun _ => cI (fun _ => cO (fun _ _ => cM ((cC))))))))))))))))) h

noncomputable def T64 (O : Orc) (k m q0 q1 : Nat) (y1 : Int) (y2 : Int) (y3 : Int) (y4 : Int) (y5 : Int) (y6 : Int) : Option V := bif y1 != y4 then some (V.tup [V.bool false]) else bif y2 != y5 then some (V.tup [V.bool false]) else bif y3 !=
 y6 then some (V.tup [V.bool false]) else some (V.tup [V.bool true])
theorem e64 (k m q0 q1 : Nat) (y1 : Int) (y2 : Int) (y3 : Int) (y4 : Int) (y5 : Int) (y6 : Int) : runV C (k + 1) 64 [V.agg [V.int .i64 y1, V.int .i64 y2, V.int .i64 y3], V.agg [V.int .i64 y4, V.int .i64 y5, V.int .i64 y6]] = T64 (orc C k) k
 m q0 q1 y1 y2 y3 y4 y5 y6 := by kernel_rfl
theorem E64 (y1 : Int) (y2 : Int) (y3 : Int) (y4 : Int) (y5 : Int) (y6 : Int) {r : V} (h : T64 (orcE C) 0 0 0 0 y1 y2 y3 y4 y5 y6 = some r) : runE C 64 [V.agg [V.int .i64 y1, V.int .i64 y2, V.int .i64 y3], V.agg [V.int .i64 y4, V.int .i64
 y5, V.int .i64 y6]] = some r := ofR (F := fun s => T64 (orc C s.k) s.k s.m 0 0 y1 y2 y3 y4 y5 y6) (fun k => e64 k k 0 0 y1 y2 y3 y4 y5 y6) (by
  unfold T64
  exact
    cF (cC) (cF (cC) (cF (cC) (cC)))) h

noncomputable def T65l1 (O : Orc) (k m q0 q1 : Nat) (y1 : Nat) (y2 : List V) (y3 : Int) (y4 : Int) : Option V := bif decide (y4 < (↑y1 : Int)) then must (inB y4 y1) (PI.asInt .i64 y2[y4.toNat * 3 + 0]? fun x1 => bif x1 != y3 then some (V.tup
 [V.int .i64 (-1)]) else must (inB y4 y1) (PI.asInt .i64 y2[y4.toNat * 3 + 1]? fun x2 => bif x2 != IntKind.i64.wrap (y3 + 1) then some (V.tup [V.int .i64 (-1)]) else must (inB y4 y1) (PI.asInt .i64 y2[y4.toNat * 3 + 2]? fun x3 => bif x3 !=
 IntKind.i64.wrap (IntKind.i64.wrap (y3 + 1) + 1) then some (V.tup [V.int .i64 (-1)]) else O.L 0 65 0 [true, false, true] [] m [(0, V.sl y1 y2), (1, V.int .i64 (IntKind.i64.wrap (IntKind.i64.wrap (IntKind.i64.wrap (y3 + 1) + 1) + 1))), (5,
 V.int .i64 (IntKind.i64.wrap (y4 + 1)))] []))) else some (V.tup [V.int .i64 y3])
theorem e65l1 (k m q0 q1 : Nat) (y1 : Nat) (y2 : List V) (y3 : Int) (y4 : Int) : runL C k 65 0 [true, false, true] [] (m + 1) [(0, V.sl y1 y2), (1, V.int .i64 y3), (5, V.int .i64 y4)] [] = T65l1 (orc C k) k m q0 q1 y1 y2 y3 y4 := by
 kernel_rfl
theorem E65l1 (y1 : Nat) (y2 : List V) (y3 : Int) (y4 : Int) {r : V} (h : T65l1 (orcE C) 0 0 0 0 y1 y2 y3 y4 = some r) : loopE C 65 0 [true, false, true] [] [(0, V.sl y1 y2), (1, V.int .i64 y3), (5, V.int .i64 y4)] [] = some r := ofL (j :=
 0) (F := fun s => T65l1 (orc C s.k) s.k s.m 0 0 y1 y2 y3 y4) (fs0 fun k m => e65l1 k m 0 0 y1 y2 y3 y4) (by
  unfold T65l1
  exact
    cF (cM ((cI (fun _ => cF (cC) (cM ((cI (fun _ => cF (cC) (cM ((cI (fun _ => cF (cC) (cD0 gM ))))))))))))) (cC)) h

noncomputable def T92 (O : Orc) (k m q0 q1 : Nat) (y1 : Int) : Option V := O.L 0 92 0 [true, true, false, true] [] k [(0, V.int .i64 y1), (3, V.ref 0), (4, V.int .i64 6)] [Ob.row 5 0 [] false]
theorem e92 (k m q0 q1 : Nat) (y1 : Int) : runV C (k + 1) 92 [V.int .i64 y1] = T92 (orc C k) k m q0 q1 y1 := by kernel_rfl
theorem E92 (y1 : Int) {r : V} (h : T92 (orcE C) 0 0 0 0 y1 = some r) : runE C 92 [V.int .i64 y1] = some r := ofR (F := fun s => T92 (orc C s.k) s.k s.m 0 0 y1) (fun k => e92 k k 0 0 y1) (by
  unfold T92
  exact
    cD0 gK ) h

noncomputable def T75l1 (O : Orc) (k m q0 q1 : Nat) (y1 : Nat) (y2 : List V) (y3 : Nat) (y4 : List V) (y5 : Int) : Option V := bif decide (y5 < (↑y1 : Int)) then bif decide (y5 < (↑y3 : Int)) then must (inB y5 y1) (PI.asInt .u8 y2[y5.toNat *
 1]? fun x1 => must (inB y5 y3) (PI.asInt .u8 y4[y5.toNat * 1]? fun x2 => bif decide (x1 < x2) then some (V.tup [V.int .i64 (-1)]) else must (inB y5 y1) (PI.asInt .u8 y2[y5.toNat * 1]? fun x3 => must (inB y5 y3) (PI.asInt .u8 y4[y5.toNat *
 1]? fun x4 => bif decide (x3 > x4) then some (V.tup [V.int .i64 1]) else O.L 0 75 0 [true, false, true] [] m [(0, V.sl y1 y2), (1, V.sl y3 y4), (5, V.int .i64 (IntKind.i64.wrap (y5 + 1)))] [])))) else bif decide ((↑y1 : Int) < (↑y3 : Int))
 then some (V.tup [V.int .i64 (-1)]) else bif decide ((↑y1 : Int) > (↑y3 : Int)) then some (V.tup [V.int .i64 1]) else some (V.tup [V.int .i64 0]) else bif decide ((↑y1 : Int) < (↑y3 : Int)) then some (V.tup [V.int .i64 (-1)]) else bif
 decide ((↑y1 : Int) > (↑y3 : Int)) then some (V.tup [V.int .i64 1]) else some (V.tup [V.int .i64 0])
theorem e75l1 (k m q0 q1 : Nat) (y1 : Nat) (y2 : List V) (y3 : Nat) (y4 : List V) (y5 : Int) : runL C k 75 0 [true, false, true] [] (m + 1) [(0, V.sl y1 y2), (1, V.sl y3 y4), (5, V.int .i64 y5)] [] = T75l1 (orc C k) k m q0 q1 y1 y2 y3 y4 y5
 := by kernel_rfl
theorem E75l1 (y1 : Nat) (y2 : List V) (y3 : Nat) (y4 : List V) (y5 : Int) {r : V} (h : T75l1 (orcE C) 0 0 0 0 y1 y2 y3 y4 y5 = some r) : loopE C 75 0 [true, false, true] [] [(0, V.sl y1 y2), (1, V.sl y3 y4), (5, V.int .i64 y5)] [] = some r
 := ofL (j := 0) (F := fun s => T75l1 (orc C s.k) s.k s.m 0 0 y1 y2 y3 y4 y5) (fs0 fun k m => e75l1 k m 0 0 y1 y2 y3 y4 y5) (by
  unfold T75l1
  exact
    cF (cF (cM ((cI (fun _ => cM ((cI (fun _ => cF (cC) (cM ((cI (fun _ => cM ((cI (fun _ => cF (cC) (cD0 gM ))))))))))))))) (cF (cC) (cF (cC) (cC)))) (cF (cC) (cF (cC) (cC)))) h

noncomputable def T76l1 (O : Orc) (k m q0 q1 : Nat) (y1 : Int) (y2 : Nat) (y3 : List V) (y4 : Int) (y5 : Int) : Option V := bif decide (y5 < (↑y2 : Int)) then must (inB y5 y2) (PI.asInt .i64 y3[y5.toNat * 3 + 0]? fun x1 => bif x1 == y4 then
 some (V.tup [V.int .i64 y5]) else O.L 0 76 0 [true, false, true] [] m [(0, V.pin [V.int .i64 y1, V.sl y2 y3] 0), (1, V.int .i64 y4), (5, V.int .i64 (IntKind.i64.wrap (y5 + 1)))] []) else some (V.tup [V.int .i64 (-1)])
theorem e76l1 (k m q0 q1 : Nat) (y1 : Int) (y2 : Nat) (y3 : List V) (y4 : Int) (y5 : Int) : runL C k 76 0 [true, false, true] [] (m + 1) [(0, V.pin [V.int .i64 y1, V.sl y2 y3] 0), (1, V.int .i64 y4), (5, V.int .i64 y5)] [] = T76l1 (orc C k)
 k m q0 q1 y1 y2 y3 y4 y5 := by kernel_rfl
theorem E76l1 (y1 : Int) (y2 : Nat) (y3 : List V) (y4 : Int) (y5 : Int) {r : V} (h : T76l1 (orcE C) 0 0 0 0 y1 y2 y3 y4 y5 = some r) : loopE C 76 0 [true, false, true] [] [(0, V.pin [V.int .i64 y1, V.sl y2 y3] 0), (1, V.int .i64 y4), (5,
 V.int .i64 y5)] [] = some r := ofL (j := 0) (F := fun s => T76l1 (orc C s.k) s.k s.m 0 0 y1 y2 y3 y4 y5) (fs0 fun k m => e76l1 k m 0 0 y1 y2 y3 y4 y5) (by
  unfold T76l1
  exact
    cF (cM ((cI (fun _ => cF (cC) (cD0 gM ))))) (cC)) h

noncomputable def T60 (O : Orc) (k m q0 q1 : Nat) (y1 : Nat) (y2 : List V) : Option V := bif (↑y1 : Int) != 8 then bif (↑y1 : Int) != 15 then some (V.tup [V.int .i64 0, V.int .i64 0, V.int .i64 0, V.bool false]) else must (inB 0 y1)
 (PI.asInt .u8 y2[0]? fun x1 => must (true && decide (8 ≤ (↑y1 : Int))) (must (true && decide (8 ≤ (↑y1 : Int))) (need (O.R 0 79 [V.sl 7 (List.take 7 (List.drop 1 y2))]) fun x2 => asTup (some x2) fun x3 => PI.asInt .i64 x3[0]? fun x4 =>
 PI.asInt .i64 x3[1]? fun x5 => need (O.R 0 79 [V.sl (y1 - 8) (List.take ((y1 - 8) * 1) (List.drop 8 y2))]) fun x6 => asTup (some x6) fun x7 => PI.asInt .i64 x7[0]? fun x8 => PI.asInt .i64 x7[1]? fun x9 => need (O.R 0 80 [V.int .i64
 (IntKind.i64.wrap x1), V.int .i64 x5, V.int .i64 x9]) fun x10 => asTup (some x10) fun x11 => PI.asInt .i64 x11[0]? fun x12 => asSl x11[1]? fun x13 x14 => bif x12 == 0 then need (O.R 0 81 [V.sl x13 x14, V.sl y1 y2]) fun x15 => asTup (some
 x15) fun x16 => PI.asBool x16[0]? fun x17 => some (V.tup [V.int .i64 (IntKind.i64.wrap x1), V.int .i64 x5, V.int .i64 x9, V.bool x17]) else some (V.tup [V.int .i64 (IntKind.i64.wrap x1), V.int .i64 x5, V.int .i64 x9, V.bool false])))) else
 must (inB 0 y1) (PI.asInt .u8 y2[0]? fun x18 => must (true && decide (8 ≤ (↑y1 : Int))) (must (true && decide (8 ≤ (↑y1 : Int))) (need (O.R 0 79 [V.sl 7 (List.take 7 (List.drop 1 y2))]) fun x19 => asTup (some x19) fun x20 => PI.asInt .i64
 x20[0]? fun x21 => PI.asInt .i64 x20[1]? fun x22 => need (O.R 0 79 [V.sl (y1 - 8) (List.take ((y1 - 8) * 1) (List.drop 8 y2))]) fun x23 => asTup (some x23) fun x24 => PI.asInt .i64 x24[0]? fun x25 => PI.asInt .i64 x24[1]? fun x26 => need
 (O.R 0 80 [V.int .i64 (IntKind.i64.wrap x18), V.int .i64 x22, V.int .i64 x26]) fun x27 => asTup (some x27) fun x28 => PI.asInt .i64 x28[0]? fun x29 => asSl x28[1]? fun x30 x31 => bif x29 == 0 then need (O.R 0 81 [V.sl x30 x31, V.sl y1 y2])
 fun x32 => asTup (some x32) fun x33 => PI.asBool x33[0]? fun x34 => some (V.tup [V.int .i64 (IntKind.i64.wrap x18), V.int .i64 x22, V.int .i64 x26, V.bool x34]) else some (V.tup [V.int .i64 (IntKind.i64.wrap x18), V.int .i64 x22, V.int .i64
 x26, V.bool false]))))
theorem e60 (k m q0 q1 : Nat) (y1 : Nat) (y2 : List V) : runV C (k + 1) 60 [V.sl y1 y2] = T60 (orc C k) k m q0 q1 y1 y2 := by kernel_rfl
theorem E60 (y1 : Nat) (y2 : List V) {r : V} (h : T60 (orcE C) 0 0 0 0 y1 y2 = some r) : runE C 60 [V.sl y1 y2] = some r := ofR (F := fun s => T60 (orc C s.k) s.k s.m 0 0 y1 y2) (fun k => e60 k k 0 0 y1 y2) (by
  unfold T60
  exact
    cF (cF (cC) (cM ((cI (fun _ => cM ((cM ((cN cR (fun _ => cT (fun _ => cI (fun _ => cI (fun _ => cN cR (fun _ => cT (fun _ => cI (fun _ => cI (fun _ => cN cR (fun _ => cT (fun _ => cI (fun _ => cL (fun _ _ => cF (cN cR (fun _ => cT (fun _ =>
    cB (fun _ => cC)))) (cC)))))))))))))))))))))) (cM ((cI (fun _ => cM ((cM ((cN cR (fun _ => cT (fun _ => cI (fun _ => cI (fun _ => cN cR (fun _ => cT (fun _ => cI (fun _ => cI (fun _ => cN cR (fun _ => cT (fun _ => cI (fun _ => cL (fun _
    _ => cF (cN cR (fun _ => cT (fun _ => cB (fun _ => cC)))) (cC)))))))))))))))))))))) h

noncomputable def T61 (O : Orc) (k m q0 q1 : Nat) (y1 : Int) (y2 : Int) (y3 : Nat) (y4 : List V) : Option V := bif y1 != IntKind.i64.wrap (y2 + 1) then must (false || y4.all flatV) (some (V.tup [V.int .i64 1, V.int .i64 y2, V.osl y3 y4]))
 else bif decide (y1 > 1000000) then must (false || y4.all flatV) (some (V.tup [V.int .i64 3, V.int .i64 y2, V.osl y3 y4])) else bif (↑y3 : Int) == 12 then must (false || y4.all flatV) (some (V.tup [V.int .i64 8, V.int .i64 y2, V.osl y3
 y4])) else must (true && (y3 + 1).ble 140737488355328 && ((y3 + 1) * 24).ble 140737488355328) (must (false || (y4 ++ [V.int .i64 y1, V.int .i64 0, V.int .i64 0]).all flatV) (some (V.tup [V.int .i64 0, V.int .i64 y1, V.osl (y3 + 1) (y4 ++
 [V.int .i64 y1, V.int .i64 0, V.int .i64 0])])))
theorem e61 (k m q0 q1 : Nat) (y1 : Int) (y2 : Int) (y3 : Nat) (y4 : List V) : runW C (k + 1) 61 [] [V.ptr 0 0, V.int .i64 y1] [Ob.box 29 [V.int .i64 y2, V.ref 1] false, Ob.row 52 y3 y4 false] = T61 (orc C k) k m q0 q1 y1 y2 y3 y4 := by
 kernel_rfl
theorem E61 (y1 : Int) (y2 : Int) (y3 : Nat) (y4 : List V) {r : V} (h : T61 (orcE C) 0 0 0 0 y1 y2 y3 y4 = some r) : runWE C 61 [] [V.ptr 0 0, V.int .i64 y1] [Ob.box 29 [V.int .i64 y2, V.ref 1] false, Ob.row 52 y3 y4 false] = some r := ofW
 (F := fun s => T61 (orc C s.k) s.k s.m 0 0 y1 y2 y3 y4) (fun k => e61 k k 0 0 y1 y2 y3 y4) (by
  unfold T61
  exact
    cF (cM ((cC))) (cF (cM ((cC))) (cF (cM ((cC))) (cM ((cM ((cC)))))))) h

noncomputable def T62 (O : Orc) (k m q0 q1 : Nat) (y1 : Int) (y2 : Int) (y3 : Int) (y4 : Nat) (y5 : List V) : Option V := need (O.R 0 82 [V.agg [V.int .i64 y3, V.sl y4 y5], V.int .i64 y1]) fun x1 => asTup (some x1) fun x2 => PI.asInt .i64
 x2[0]? fun x3 => need (O.R 0 47 [V.int .i64 y2, V.int .i64 0, V.int .i64 1099511627776]) fun x4 => asTup (some x4) fun x5 => PI.asBool x5[0]? fun x6 => bif !x6 then must (false || y5.all flatV) (some (V.tup [V.int .i64 3, V.int .i64 y3,
 V.osl y4 y5])) else bif decide (x3 < 0) then must (false || y5.all flatV) (some (V.tup [V.int .i64 4, V.int .i64 y3, V.osl y4 y5])) else must (inB x3 y4) (PI.asInt .i64 y5[x3.toNat * 3 + 1]? fun x7 => must ([V.int .i64 (if 8 <
 IntKind.i64.wrap (x7 + 1) then 8 else IntKind.i64.wrap (x7 + 1))].length.beq 1 && (x3.toNat * 3 + 1 + [V.int .i64 (if 8 < IntKind.i64.wrap (x7 + 1) then 8 else IntKind.i64.wrap (x7 + 1))].length).ble y5.length) (PI.asInt .i64 (splice y5
 (x3.toNat * 3 + 1) [V.int .i64 (if 8 < IntKind.i64.wrap (x7 + 1) then 8 else IntKind.i64.wrap (x7 + 1))])[x3.toNat * 3 + 1]? fun x8 => must (decide (0 ≤ x8)) (must ([V.int .i64 (IntKind.i64.wrap (y2 + IntKind.i64.wrap (1 * 2 ^ min x8.toNat
 64)))].length.beq 1 && (x3.toNat * 3 + 2 + [V.int .i64 (IntKind.i64.wrap (y2 + IntKind.i64.wrap (1 * 2 ^ min x8.toNat 64)))].length).ble (splice y5 (x3.toNat * 3 + 1) [V.int .i64 (if 8 < IntKind.i64.wrap (x7 + 1) then 8 else
 IntKind.i64.wrap (x7 + 1))]).length) (must (false || (splice (splice y5 (x3.toNat * 3 + 1) [V.int .i64 (if 8 < IntKind.i64.wrap (x7 + 1) then 8 else IntKind.i64.wrap (x7 + 1))]) (x3.toNat * 3 + 2) [V.int .i64 (IntKind.i64.wrap (y2 +
 IntKind.i64.wrap (1 * 2 ^ min x8.toNat 64)))]).all flatV) (some (V.tup [V.int .i64 0, V.int .i64 y3, V.osl y4 (splice (splice y5 (x3.toNat * 3 + 1) [V.int .i64 (if 8 < IntKind.i64.wrap (x7 + 1) then 8 else IntKind.i64.wrap (x7 + 1))])
 (x3.toNat * 3 + 2) [V.int .i64 (IntKind.i64.wrap (y2 + IntKind.i64.wrap (1 * 2 ^ min x8.toNat 64)))])]))))))
theorem e62 (k m q0 q1 : Nat) (y1 : Int) (y2 : Int) (y3 : Int) (y4 : Nat) (y5 : List V) : runW C (k + 1) 62 [] [V.ptr 0 0, V.int .i64 y1, V.int .i64 y2] [Ob.box 29 [V.int .i64 y3, V.ref 1] false, Ob.row 52 y4 y5 false] = T62 (orc C k) k m q0
 q1 y1 y2 y3 y4 y5 := by kernel_rfl
theorem E62 (y1 : Int) (y2 : Int) (y3 : Int) (y4 : Nat) (y5 : List V) {r : V} (h : T62 (orcE C) 0 0 0 0 y1 y2 y3 y4 y5 = some r) : runWE C 62 [] [V.ptr 0 0, V.int .i64 y1, V.int .i64 y2] [Ob.box 29 [V.int .i64 y3, V.ref 1] false, Ob.row 52
 y4 y5 false] = some r := ofW (F := fun s => T62 (orc C s.k) s.k s.m 0 0 y1 y2 y3 y4 y5) (fun k => e62 k k 0 0 y1 y2 y3 y4 y5) (by
  unfold T62
  exact
    cN cR (fun _ => cT (fun _ => cI (fun _ => cN cR (fun _ => cT (fun _ => cB (fun _ => cF (cM ((cC))) (cF (cM ((cC))) (cM ((cI (fun _ => cM ((cI (fun _ => cM ((cM ((cM ((cC))))))))))))))))))))) h

noncomputable def T63 (O : Orc) (k m q0 q1 : Nat) (y1 : Int) (y2 : Int) (y3 : Nat) (y4 : List V) : Option V := need (O.R 0 82 [V.agg [V.int .i64 y2, V.sl y3 y4], V.int .i64 y1]) fun x1 => asTup (some x1) fun x2 => PI.asInt .i64 x2[0]? fun x3
 => bif decide (x3 < 0) then must (false || y4.all flatV) (some (V.tup [V.int .i64 4, V.int .i64 y2, V.osl y3 y4])) else must (decide (0 ≤ x3) && decide (x3 ≤ IntKind.i64.wrap (x3 + 1)) && decide (IntKind.i64.wrap (x3 + 1) ≤ (↑y3 : Int)) &&
 true) (must (false || (List.take (x3.toNat * 3) y4 ++ List.drop ((IntKind.i64.wrap (x3 + 1)).toNat * 3) y4).all flatV) (some (V.tup [V.int .i64 0, V.int .i64 y2, V.osl (y3 - ((IntKind.i64.wrap (x3 + 1)).toNat - x3.toNat)) (List.take
 (x3.toNat * 3) y4 ++ List.drop ((IntKind.i64.wrap (x3 + 1)).toNat * 3) y4)])))
theorem e63 (k m q0 q1 : Nat) (y1 : Int) (y2 : Int) (y3 : Nat) (y4 : List V) : runW C (k + 1) 63 [] [V.ptr 0 0, V.int .i64 y1] [Ob.box 29 [V.int .i64 y2, V.ref 1] false, Ob.row 52 y3 y4 false] = T63 (orc C k) k m q0 q1 y1 y2 y3 y4 := by
 kernel_rfl
theorem E63 (y1 : Int) (y2 : Int) (y3 : Nat) (y4 : List V) {r : V} (h : T63 (orcE C) 0 0 0 0 y1 y2 y3 y4 = some r) : runWE C 63 [] [V.ptr 0 0, V.int .i64 y1] [Ob.box 29 [V.int .i64 y2, V.ref 1] false, Ob.row 52 y3 y4 false] = some r := ofW
 (F := fun s => T63 (orc C s.k) s.k s.m 0 0 y1 y2 y3 y4) (fun k => e63 k k 0 0 y1 y2 y3 y4) (by
  unfold T63
  exact
    cN cR (fun _ => cT (fun _ => cI (fun _ => cF (cM ((cC))) (cM ((cM ((cC))))))))) h

noncomputable def T92l1 (O : Orc) (k m q0 q1 : Nat) (y1 : Int) (y2 : Int) (y3 : Nat) (y4 : List V) : Option V := bif decide (y2 ≥ 0) then must (decide (0 ≤ IntKind.u64.wrap (IntKind.i64.wrap (8 * y2)))) (must (true && (y3 + 1).ble
 140737488355328 && ((y3 + 1) * 1).ble 140737488355328) (O.L 0 92 0 [true, true, false, true] [] m [(0, V.int .i64 y1), (3, V.ref 0), (4, V.int .i64 (IntKind.i64.wrap (y2 - 1)))] [Ob.row 5 (y3 + 1) (y4 ++ [V.int .u8 (IntKind.u8.wrap (y1.fdiv
 (2 ^ min (IntKind.u64.wrap (IntKind.i64.wrap (8 * y2))).toNat 64)))]) false])) else some (V.tup [V.sl y3 y4])
theorem e92l1 (k m q0 q1 : Nat) (y1 : Int) (y2 : Int) (y3 : Nat) (y4 : List V) : runL C k 92 0 [true, true, false, true] [] (m + 1) [(0, V.int .i64 y1), (3, V.ref 0), (4, V.int .i64 y2)] [Ob.row 5 y3 y4 false] = T92l1 (orc C k) k m q0 q1 y1
 y2 y3 y4 := by kernel_rfl
theorem E92l1 (y1 : Int) (y2 : Int) (y3 : Nat) (y4 : List V) {r : V} (h : T92l1 (orcE C) 0 0 0 0 y1 y2 y3 y4 = some r) : loopE C 92 0 [true, true, false, true] [] [(0, V.int .i64 y1), (3, V.ref 0), (4, V.int .i64 y2)] [Ob.row 5 y3 y4 false]
 = some r := ofL (j := 0) (F := fun s => T92l1 (orc C s.k) s.k s.m 0 0 y1 y2 y3 y4) (fs0 fun k m => e92l1 k m 0 0 y1 y2 y3 y4) (by
  unfold T92l1
  exact
    cF (cM ((cM ((cD0 gM ))))) (cC)) h

noncomputable def T79 (O : Orc) (k m q0 q1 : Nat) (y1 : Nat) (y2 : List V) : Option V := bif (↑y1 : Int) != 7 then some (V.tup [V.int .i64 1, V.int .i64 0]) else O.L 0 79 0 [true, true, true, false, true] [] k [(2, V.ptr 0 0), (3, V.int .i64
 0), (10, V.sl y1 y2), (11, V.int .i64 (↑y1 : Int)), (12, V.int .i64 0)] [Ob.box 112 [V.int .i64 0, V.int .i64 0] false]
theorem e79 (k m q0 q1 : Nat) (y1 : Nat) (y2 : List V) : runV C (k + 1) 79 [V.sl y1 y2] = T79 (orc C k) k m q0 q1 y1 y2 := by kernel_rfl
theorem E79 (y1 : Nat) (y2 : List V) {r : V} (h : T79 (orcE C) 0 0 0 0 y1 y2 = some r) : runE C 79 [V.sl y1 y2] = some r := ofR (F := fun s => T79 (orc C s.k) s.k s.m 0 0 y1 y2) (fun k => e79 k k 0 0 y1 y2) (by
  unfold T79
  exact
    cF (cC) (cD0 gK )) h

noncomputable def T80 (O : Orc) (k m q0 q1 : Nat) (y1 : Int) (y2 : Int) (y3 : Int) : Option V := need (O.R 0 47 [V.int .i64 y1, V.int .i64 1, V.int .i64 3]) fun x1 => asTup (some x1) fun x2 => PI.asBool x2[0]? fun x3 => bif !x3 then some
 (V.tup [V.int .i64 1, V.sl 0 []]) else need (O.R 0 93 [V.int .i64 y2]) fun x4 => asTup (some x4) fun x5 => PI.asBool x5[0]? fun x6 => bif !x6 then some (V.tup [V.int .i64 3, V.sl 0 []]) else need (O.R 0 47 [V.int .i64 y3, V.int .i64 0,
 V.int .i64 1099511627776]) fun x7 => asTup (some x7) fun x8 => PI.asBool x8[0]? fun x9 => bif !x9 then some (V.tup [V.int .i64 3, V.sl 0 []]) else bif y3 != 0 then bif y1 != 2 then some (V.tup [V.int .i64 1, V.sl 0 []]) else need (O.R 0 94
 [V.int .i64 y2]) fun x10 => asTup (some x10) fun x11 => asSl x11[0]? fun x12 x13 => must (decide (x13.length = x12 * 1)) (must (true && (1 + x12).ble 140737488355328 && ((1 + x12) * 1).ble 140737488355328) (bif y1 == 2 then need (O.R 0 94
 [V.int .i64 y3]) fun x14 => asTup (some x14) fun x15 => asSl x15[0]? fun x16 x17 => must (decide (x17.length = x16 * 1)) (must (true && (1 + x12 + x16).ble 140737488355328 && ((1 + x12 + x16) * 1).ble 140737488355328) (some (V.tup [V.int
 .i64 0, V.sl (1 + x12 + x16) (V.int .u8 (IntKind.u8.wrap y1) :: x13 ++ x17)]))) else some (V.tup [V.int .i64 0, V.sl (1 + x12) (V.int .u8 (IntKind.u8.wrap y1) :: x13)]))) else need (O.R 0 94 [V.int .i64 y2]) fun x18 => asTup (some x18) fun
 x19 => asSl x19[0]? fun x20 x21 => must (decide (x21.length = x20 * 1)) (must (true && (1 + x20).ble 140737488355328 && ((1 + x20) * 1).ble 140737488355328) (bif y1 == 2 then need (O.R 0 94 [V.int .i64 y3]) fun x22 => asTup (some x22) fun
 x23 => asSl x23[0]? fun x24 x25 => must (decide (x25.length = x24 * 1)) (must (true && (1 + x20 + x24).ble 140737488355328 && ((1 + x20 + x24) * 1).ble 140737488355328) (some (V.tup [V.int .i64 0, V.sl (1 + x20 + x24) (V.int .u8
 (IntKind.u8.wrap y1) :: x21 ++ x25)]))) else some (V.tup [V.int .i64 0, V.sl (1 + x20) (V.int .u8 (IntKind.u8.wrap y1) :: x21)])))
theorem e80 (k m q0 q1 : Nat) (y1 : Int) (y2 : Int) (y3 : Int) : runV C (k + 1) 80 [V.int .i64 y1, V.int .i64 y2, V.int .i64 y3] = T80 (orc C k) k m q0 q1 y1 y2 y3 := by kernel_rfl
theorem E80 (y1 : Int) (y2 : Int) (y3 : Int) {r : V} (h : T80 (orcE C) 0 0 0 0 y1 y2 y3 = some r) : runE C 80 [V.int .i64 y1, V.int .i64 y2, V.int .i64 y3] = some r := ofR (F := fun s => T80 (orc C s.k) s.k s.m 0 0 y1 y2 y3) (fun k => e80 k
 k 0 0 y1 y2 y3) (by
  unfold T80
  exact
    cN cR (fun _ => cT (fun _ => cB (fun _ => cF (cC) (cN cR (fun _ => cT (fun _ => cB (fun _ => cF (cC) (cN cR (fun _ => cT (fun _ => cB (fun _ => cF (cC) (cF (cF (cC) (cN cR (fun _ => cT (fun _ => cL (fun _ _ => cM ((cM ((cF (cN cR (fun _ =>
    cT (fun _ => cL (fun _ _ => cM ((cM ((cC)))))))) (cC)))))))))) (cN cR (fun _ => cT (fun _ => cL (fun _ _ => cM ((cM ((cF (cN cR (fun _ => cT (fun _ => cL (fun _ _ => cM ((cM ((cC)))))))) (cC)))))))))))))))))))))) h

noncomputable def T81 (O : Orc) (k m q0 q1 : Nat) (y1 : Nat) (y2 : List V) (y3 : Nat) (y4 : List V) : Option V := need (O.R 0 88 [V.sl y1 y2, V.sl y3 y4]) fun x1 => asTup (some x1) fun x2 => PI.asBool x2[0]? fun x3 => some (V.tup [V.bool
 x3])
theorem e81 (k m q0 q1 : Nat) (y1 : Nat) (y2 : List V) (y3 : Nat) (y4 : List V) : runV C (k + 1) 81 [V.sl y1 y2, V.sl y3 y4] = T81 (orc C k) k m q0 q1 y1 y2 y3 y4 := by kernel_rfl
theorem E81 (y1 : Nat) (y2 : List V) (y3 : Nat) (y4 : List V) {r : V} (h : T81 (orcE C) 0 0 0 0 y1 y2 y3 y4 = some r) : runE C 81 [V.sl y1 y2, V.sl y3 y4] = some r := ofR (F := fun s => T81 (orc C s.k) s.k s.m 0 0 y1 y2 y3 y4) (fun k => e81
 k k 0 0 y1 y2 y3 y4) (by
  unfold T81
  exact
    cN cR (fun _ => cT (fun _ => cB (fun _ => cC)))) h

noncomputable def T82 (O : Orc) (k m q0 q1 : Nat) (y1 : Int) (y2 : Nat) (y3 : List V) (y4 : Int) : Option V := need (O.R 0 95 [V.sl y2 y3, V.fn 96 [V.pin [V.int .i64 y4] 0]]) fun x1 => asTup (some x1) fun x2 => PI.asInt .i64 x2[0]? fun x3 =>
 some (V.tup [V.int .i64 x3])
theorem e82 (k m q0 q1 : Nat) (y1 : Int) (y2 : Nat) (y3 : List V) (y4 : Int) : runV C (k + 1) 82 [V.agg [V.int .i64 y1, V.sl y2 y3], V.int .i64 y4] = T82 (orc C k) k m q0 q1 y1 y2 y3 y4 := by kernel_rfl
theorem E82 (y1 : Int) (y2 : Nat) (y3 : List V) (y4 : Int) {r : V} (h : T82 (orcE C) 0 0 0 0 y1 y2 y3 y4 = some r) : runE C 82 [V.agg [V.int .i64 y1, V.sl y2 y3], V.int .i64 y4] = some r := ofR (F := fun s => T82 (orc C s.k) s.k s.m 0 0 y1
 y2 y3 y4) (fun k => e82 k k 0 0 y1 y2 y3 y4) (by
  unfold T82
  exact
    cN cR (fun _ => cT (fun _ => cI (fun _ => cC)))) h

noncomputable def T79l1 (O : Orc) (k m q0 q1 : Nat) (y1 : Int) (y2 : Nat) (y3 : List V) (y4 : Int) (y5 : Int) (y6 : Int) (y7 : Int) : Option V := bif decide (y5 < y4) then must (inB y5 y2) (PI.asInt .u8 y3[y5.toNat * 1]? fun x1 => O.L 0 79 0
 [true, true, true, false, true] [] m [(2, V.ptr 0 0), (3, V.int .i64 (PI.bits IntKind.i64 (fun x1 x2 => x1 ||| x2) (IntKind.i64.wrap (y1 * 256)) (IntKind.i64.wrap x1))), (10, V.sl y2 y3), (11, V.int .i64 y4), (12, V.int .i64
 (IntKind.i64.wrap (y5 + 1)))] [Ob.box 112 [V.int .i64 y6, V.int .i64 y7] false]) else some (V.tup [V.int .i64 0, V.int .i64 y1])
theorem e79l1 (k m q0 q1 : Nat) (y1 : Int) (y2 : Nat) (y3 : List V) (y4 : Int) (y5 : Int) (y6 : Int) (y7 : Int) : runL C k 79 0 [true, true, true, false, true] [] (m + 1) [(2, V.ptr 0 0), (3, V.int .i64 y1), (10, V.sl y2 y3), (11, V.int .i64
 y4), (12, V.int .i64 y5)] [Ob.box 112 [V.int .i64 y6, V.int .i64 y7] false] = T79l1 (orc C k) k m q0 q1 y1 y2 y3 y4 y5 y6 y7 := by kernel_rfl
theorem E79l1 (y1 : Int) (y2 : Nat) (y3 : List V) (y4 : Int) (y5 : Int) (y6 : Int) (y7 : Int) {r : V} (h : T79l1 (orcE C) 0 0 0 0 y1 y2 y3 y4 y5 y6 y7 = some r) : loopE C 79 0 [true, true, true, false, true] [] [(2, V.ptr 0 0), (3, V.int
 .i64 y1), (10, V.sl y2 y3), (11, V.int .i64 y4), (12, V.int .i64 y5)] [Ob.box 112 [V.int .i64 y6, V.int .i64 y7] false] = some r := ofL (j := 0) (F := fun s => T79l1 (orc C s.k) s.k s.m 0 0 y1 y2 y3 y4 y5 y6 y7) (fs0 fun k m => e79l1 k m 0
 0 y1 y2 y3 y4 y5 y6 y7) (by
  unfold T79l1
  exact
    cF (cM ((cI (fun _ => cD0 gM )))) (cC)) h

noncomputable def T93 (O : Orc) (k m q0 q1 : Nat) (y1 : Int) : Option V := need (O.R 0 47 [V.int .i64 y1, V.int .i64 1, V.int .i64 1000000]) fun x1 => asTup (some x1) fun x2 => PI.asBool x2[0]? fun x3 => some (V.tup [V.bool x3])
theorem e93 (k m q0 q1 : Nat) (y1 : Int) : runV C (k + 1) 93 [V.int .i64 y1] = T93 (orc C k) k m q0 q1 y1 := by kernel_rfl
theorem E93 (y1 : Int) {r : V} (h : T93 (orcE C) 0 0 0 0 y1 = some r) : runE C 93 [V.int .i64 y1] = some r := ofR (F := fun s => T93 (orc C s.k) s.k s.m 0 0 y1) (fun k => e93 k k 0 0 y1) (by
  unfold T93
  exact
    cN cR (fun _ => cT (fun _ => cB (fun _ => cC)))) h

noncomputable def T94 (O : Orc) (k m q0 q1 : Nat) (y1 : Int) : Option V := O.L 0 94 0 [true, true, false, true] [] k [(0, V.int .i64 y1), (3, V.ref 0), (4, V.int .i64 6)] [Ob.row 5 7 [V.int .u8 0, V.int .u8 0, V.int .u8 0, V.int .u8 0, V.int
 .u8 0, V.int .u8 0, V.int .u8 0] false]
theorem e94 (k m q0 q1 : Nat) (y1 : Int) : runV C (k + 1) 94 [V.int .i64 y1] = T94 (orc C k) k m q0 q1 y1 := by kernel_rfl
theorem E94 (y1 : Int) {r : V} (h : T94 (orcE C) 0 0 0 0 y1 = some r) : runE C 94 [V.int .i64 y1] = some r := ofR (F := fun s => T94 (orc C s.k) s.k s.m 0 0 y1) (fun k => e94 k k 0 0 y1) (by
  unfold T94
  exact
    cD0 gK ) h

noncomputable def T88 (O : Orc) (k m q0 q1 : Nat) (y1 : Nat) (y2 : List V) (y3 : Nat) (y4 : List V) : Option V := must (y2.length.beq y1 && y2.all isU8) (must (y4.length.beq y3 && y4.all isU8) (some (V.tup [V.bool (strEq (packB y2) (packB
 y4))])))
theorem e88 (k m q0 q1 : Nat) (y1 : Nat) (y2 : List V) (y3 : Nat) (y4 : List V) : runV C (k + 1) 88 [V.sl y1 y2, V.sl y3 y4] = T88 (orc C k) k m q0 q1 y1 y2 y3 y4 := by kernel_rfl
theorem E88 (y1 : Nat) (y2 : List V) (y3 : Nat) (y4 : List V) {r : V} (h : T88 (orcE C) 0 0 0 0 y1 y2 y3 y4 = some r) : runE C 88 [V.sl y1 y2, V.sl y3 y4] = some r := ofR (F := fun s => T88 (orc C s.k) s.k s.m 0 0 y1 y2 y3 y4) (fun k => e88
 k k 0 0 y1 y2 y3 y4) (by
  unfold T88
  exact
    cM ((cM ((cC))))) h

noncomputable def T95 (O : Orc) (k m q0 q1 : Nat) (y1 : Nat) (y2 : List V) (y3 : Int) : Option V := O.L 0 95 0 [true, false, true] [] k [(0, V.sl y1 y2), (1, V.fn 96 [V.pin [V.int .i64 y3] 0]), (7, V.int .i64 (↑y1 : Int)), (8, V.int .i64 0)]
 []
theorem e95 (k m q0 q1 : Nat) (y1 : Nat) (y2 : List V) (y3 : Int) : runV C (k + 1) 95 [V.sl y1 y2, V.fn 96 [V.pin [V.int .i64 y3] 0]] = T95 (orc C k) k m q0 q1 y1 y2 y3 := by kernel_rfl
theorem E95 (y1 : Nat) (y2 : List V) (y3 : Int) {r : V} (h : T95 (orcE C) 0 0 0 0 y1 y2 y3 = some r) : runE C 95 [V.sl y1 y2, V.fn 96 [V.pin [V.int .i64 y3] 0]] = some r := ofR (F := fun s => T95 (orc C s.k) s.k s.m 0 0 y1 y2 y3) (fun k =>
 e95 k k 0 0 y1 y2 y3) (by
  unfold T95
  exact
    cD0 gK ) h

noncomputable def T94l1 (O : Orc) (k m q0 q1 : Nat) (y1 : Int) (y2 : Int) (y3 : Nat) (y4 : List V) : Option V := bif decide (y2 ≥ 0) then must (inB y2 y3) (must ([V.int .u8 (IntKind.u8.wrap y1)].length.beq 1 && (y2.toNat * 1 + [V.int .u8
 (IntKind.u8.wrap y1)].length).ble y4.length) (O.L 0 94 0 [true, true, false, true] [] m [(0, V.int .i64 (y1.fdiv 256)), (3, V.ref 0), (4, V.int .i64 (IntKind.i64.wrap (y2 - 1)))] [Ob.row 5 y3 (splice y4 (y2.toNat * 1) [V.int .u8
 (IntKind.u8.wrap y1)]) false])) else some (V.tup [V.sl y3 y4])
theorem e94l1 (k m q0 q1 : Nat) (y1 : Int) (y2 : Int) (y3 : Nat) (y4 : List V) : runL C k 94 0 [true, true, false, true] [] (m + 1) [(0, V.int .i64 y1), (3, V.ref 0), (4, V.int .i64 y2)] [Ob.row 5 y3 y4 false] = T94l1 (orc C k) k m q0 q1 y1
 y2 y3 y4 := by kernel_rfl
theorem E94l1 (y1 : Int) (y2 : Int) (y3 : Nat) (y4 : List V) {r : V} (h : T94l1 (orcE C) 0 0 0 0 y1 y2 y3 y4 = some r) : loopE C 94 0 [true, true, false, true] [] [(0, V.int .i64 y1), (3, V.ref 0), (4, V.int .i64 y2)] [Ob.row 5 y3 y4 false]
 = some r := ofL (j := 0) (F := fun s => T94l1 (orc C s.k) s.k s.m 0 0 y1 y2 y3 y4) (fs0 fun k m => e94l1 k m 0 0 y1 y2 y3 y4) (by
  unfold T94l1
  exact
    cF (cM ((cM ((cD0 gM ))))) (cC)) h

noncomputable def T95l1 (O : Orc) (k m q0 q1 : Nat) (y1 : Nat) (y2 : List V) (y3 : Int) (y4 : Int) (y5 : Int) : Option V := bif decide (y5 < y4) then must (inB y5 y1) (PI.asInt .i64 y2[y5.toNat * 3]? fun x1 => PI.asInt .i64 y2[y5.toNat * 3 +
 1]? fun x2 => PI.asInt .i64 y2[y5.toNat * 3 + 1 + 1]? fun x3 => need (O.R 0 96 [V.agg [V.int .i64 x1, V.int .i64 x2, V.int .i64 x3], V.pin [V.int .i64 y3] 0]) fun x4 => asTup (some x4) fun x5 => PI.asBool x5[0]? fun x6 => bif x6 then some
 (V.tup [V.int .i64 y5]) else O.L 0 95 0 [true, false, true] [] m [(0, V.sl y1 y2), (1, V.fn 96 [V.pin [V.int .i64 y3] 0]), (7, V.int .i64 y4), (8, V.int .i64 (IntKind.i64.wrap (y5 + 1)))] []) else some (V.tup [V.int .i64 (-1)])
theorem e95l1 (k m q0 q1 : Nat) (y1 : Nat) (y2 : List V) (y3 : Int) (y4 : Int) (y5 : Int) : runL C k 95 0 [true, false, true] [] (m + 1) [(0, V.sl y1 y2), (1, V.fn 96 [V.pin [V.int .i64 y3] 0]), (7, V.int .i64 y4), (8, V.int .i64 y5)] [] =
 T95l1 (orc C k) k m q0 q1 y1 y2 y3 y4 y5 := by kernel_rfl
theorem E95l1 (y1 : Nat) (y2 : List V) (y3 : Int) (y4 : Int) (y5 : Int) {r : V} (h : T95l1 (orcE C) 0 0 0 0 y1 y2 y3 y4 y5 = some r) : loopE C 95 0 [true, false, true] [] [(0, V.sl y1 y2), (1, V.fn 96 [V.pin [V.int .i64 y3] 0]), (7, V.int
 .i64 y4), (8, V.int .i64 y5)] [] = some r := ofL (j := 0) (F := fun s => T95l1 (orc C s.k) s.k s.m 0 0 y1 y2 y3 y4 y5) (fs0 fun k m => e95l1 k m 0 0 y1 y2 y3 y4 y5) (by
  unfold T95l1
  exact
    cF (cM ((cI (fun _ => cI (fun _ => cI (fun _ => cN cR (fun _ => cT (fun _ => cB (fun _ => cF (cC) (cD0 gM )))))))))) (cC)) h

noncomputable def T96 (O : Orc) (k m q0 q1 : Nat) (y1 : Int) (y2 : Int) (y3 : Int) (y4 : Int) : Option V := some (V.tup [V.bool (y1 == y4)])
theorem e96 (k m q0 q1 : Nat) (y1 : Int) (y2 : Int) (y3 : Int) (y4 : Int) : runV C (k + 1) 96 [V.agg [V.int .i64 y1, V.int .i64 y2, V.int .i64 y3], V.pin [V.int .i64 y4] 0] = T96 (orc C k) k m q0 q1 y1 y2 y3 y4 := by kernel_rfl
theorem E96 (y1 : Int) (y2 : Int) (y3 : Int) (y4 : Int) {r : V} (h : T96 (orcE C) 0 0 0 0 y1 y2 y3 y4 = some r) : runE C 96 [V.agg [V.int .i64 y1, V.int .i64 y2, V.int .i64 y3], V.pin [V.int .i64 y4] 0] = some r := ofR (F := fun s => T96
 (orc C s.k) s.k s.m 0 0 y1 y2 y3 y4) (fun k => e96 k k 0 0 y1 y2 y3 y4) (by
  unfold T96
  exact
    cC) h

end Go.Proofs.Ytkjjneejmjfhlaa.Eq3

