/-
  The functions of a table, as the interpreter tells them. Printed by a program.
-/
import Derived.Test.YtodapaplfjfnlaaGreatPITabQ
import Derived.Test.YtodapaplfjfnlaaGreatPIPlain
import Derived.KernelRfl
noncomputable section
namespace Go.Proofs.YtodapaplfjfnlaaGreat.EqQ
open Go Go.PI V IntKind
set_option maxRecDepth 100000
set_option maxHeartbeats 4000000
set_option linter.unusedVariables false
set_option linter.unusedSimpArgs false
noncomputable abbrev C := tabQ.cfg
def T7 (O : Orc) (A : Nat) (B : List V) : Option V := need (O.R 0 8 [sl A B]) fun a => asTup (some a) fun b => PI.asBool b[0]? fun c => bif c then some
 (tup [bool true]) else need (O.R 0 33 [sl A B]) fun d => asTup (some d) fun e => PI.asInt .i64 e[0]? fun f => PI.asInt .i64 e[1]? fun g => asSl e[2]? fun i j => asSl e[3]? fun l
 n => asSl e[4]? fun p v => asSl e[5]? fun w x => PI.asInt .i64 e[6]? fun y => PI.asBool e[7]? fun z => asSl e[8]? fun a0 a1 => PI.asInt .i64 e[9]? fun a2 => asSl e[10]? fun a3
 a4 => PI.asInt .i64 e[11]? fun a5 => PI.asInt .i64 e[12]? fun a6 => asSl e[13]? fun a7 a8 => asSl e[14]? fun a9 b0 => asSl e[15]? fun b1 b2 => asSl e[16]? fun b3 b4 => asSl e[17]?
 fun b5 b6 => PI.asInt .i64 e[18]? fun b7 => need (O.R 0 34 [agg [int .i64 f, int .i64 g, sl i j, sl l n, sl p v, sl w x, int .i64 y, bool z, sl a0 a1,
 int .i64 a2], sl a3 a4, agg [int .i64 a5, int .i64 a6, sl a7 a8, sl a9 b0, sl b1 b2, sl b3 b4], sl b5 b6, int .i64 b7]) fun b8 => asTup (some b8) fun b9 =>
 PI.asInt .i64 b9[0]? fun c0 => PI.asInt .i64 b9[1]? fun c1 => PI.asInt .i64 b9[2]? fun c2 => asOsl b9[3]? fun c3 c4 => asOsl b9[4]? fun c5 c6 => asOsl b9[5]? fun c7 c8 => asOsl b9[6]?
 fun c9 d0 => PI.asInt .i64 b9[7]? fun d1 => PI.asBool b9[8]? fun d2 => asOsl b9[9]? fun d3 d4 => PI.asInt .i64 b9[10]? fun d5 => bif c0 != 0 then need (O.R 0 35 [agg [int .i64 f,
 int .i64 g, sl i j, sl l n, sl p v, sl w x, int .i64 y, bool z, sl a0 a1, int .i64 a2], sl a3 a4, agg [int .i64 a5, int .i64 a6, sl a7 a8, sl
 a9 b0, sl b1 b2, sl b3 b4], sl b5 b6, int .i64 b7]) fun d6 => asTup (some d6) fun d7 => PI.asInt .i64 d7[0]? fun d8 => PI.asInt .i64 d7[1]? fun d9 => PI.asInt .i64 d7[2]? fun
 e0 => asSl d7[3]? fun e1 e2 => asSl d7[4]? fun e3 e4 => asSl d7[5]? fun e5 e6 => asSl d7[6]? fun e7 e8 => PI.asInt .i64 d7[7]? fun e9 => PI.asBool d7[8]? fun f0 => asSl d7[9]? fun
 f1 f2 => PI.asInt .i64 d7[10]? fun f3 => some (tup [bool (d8 == c0)]) else need (O.R 0 36 [agg [int .i64 c1, int .i64 c2, sl c3 c4, sl c5 c6, sl c7 c8, sl c9 (bareL
 d0), int .i64 d1, bool d2, sl d3 (bareL d4), int .i64 d5], int .i64 a5]) fun f4 => asTup (some f4) fun f5 => PI.asInt .i64 f5[0]? fun f6 => asSl f5[1]? fun f7 f8 => bif decide
 (a5 > i64.wrap (f + 1)) then need (O.R 0 37 [sl a3 a4, agg [int .i64 a5, int .i64 a6, sl a7 a8, sl a9 b0, sl b1 b2, sl b3 b4]]) fun f9 => asTup (some f9) fun
 g0 => PI.asBool g0[0]? fun g1 => bif g1 then need (O.R 0 31 [agg [int .i64 c1, int .i64 c2, sl c3 c4, sl c5 c6, sl c7 c8, sl c9 (bareL d0), int .i64 d1, bool d2, sl
 d3 (bareL d4), int .i64 d5]]) fun g2 => asTup (some g2) fun g3 => PI.asInt .i64 g3[0]? fun g4 => bif g4 == 0 then bif c1 == a5 then bif f6 == 0 then need (O.R 0 20 [sl f7 f8, sl
 a7 a8]) fun g5 => asTup (some g5) fun g6 => PI.asBool g6[0]? fun g7 => bif g7 then bif !d2 then need (O.R 0 34 [agg [int .i64 c1, int .i64 c2, sl c3 c4, sl c5 c6, sl c7
 c8, sl c9 (bareL d0), int .i64 d1, bool d2, sl d3 (bareL d4), int .i64 d5], sl a3 a4, agg [int .i64 a5, int .i64 a6, sl a7 a8, sl a9 b0, sl b1 b2, sl b3
 b4], sl b5 b6, int .i64 b7]) fun g8 => asTup (some g8) fun g9 => PI.asInt .i64 g9[0]? fun h0 => PI.asInt .i64 g9[1]? fun h1 => PI.asInt .i64 g9[2]? fun h2 => asOsl g9[3]? fun h3 h4
 => asOsl g9[4]? fun h5 h6 => asOsl g9[5]? fun h7 h8 => asOsl g9[6]? fun h9 i0 => PI.asInt .i64 g9[7]? fun i1 => PI.asBool g9[8]? fun i2 => asOsl g9[9]? fun i3 i4 => PI.asInt .i64
 g9[10]? fun i5 => some (tup [bool (h0 != 0)]) else some (tup [bool false]) else some (tup [bool false]) else some (tup [bool false]) else some (tup [bool false]) else some
 (tup [bool false]) else bif a5 == i64.wrap (f + 1) then need (O.R 0 37 [sl w x, agg [int .i64 a5, int .i64 a6, sl a7 a8, sl a9 b0, sl b1 b2, sl b3 b4]]) fun
 i6 => asTup (some i6) fun i7 => PI.asBool i7[0]? fun i9 => need (O.R 0 31 [agg [int .i64 c1, int .i64 c2, sl c3 c4, sl c5 c6, sl c7 c8, sl c9 (bareL d0), int .i64
 d1, bool d2, sl d3 (bareL d4), int .i64 d5]]) fun j0 => asTup (some j0) fun j1 => PI.asInt .i64 j1[0]? fun j2 => bif j2 == 0 then bif c1 == a5 then bif f6 == 0 then need (O.R
 0 20 [sl f7 f8, sl a7 a8]) fun j3 => asTup (some j3) fun j4 => PI.asBool j4[0]? fun j5 => bif j5 then bif i9 then bif !d2 then need (O.R 0 34 [agg [int .i64 c1, int .i64
 c2, sl c3 c4, sl c5 c6, sl c7 c8, sl c9 (bareL d0), int .i64 d1, bool d2, sl d3 (bareL d4), int .i64 d5], sl a3 a4, agg [int .i64 a5, int .i64 a6, sl a7
 a8, sl a9 b0, sl b1 b2, sl b3 b4], sl b5 b6, int .i64 b7]) fun j6 => asTup (some j6) fun j7 => PI.asInt .i64 j7[0]? fun j8 => PI.asInt .i64 j7[1]? fun j9 => PI.asInt
 .i64 j7[2]? fun l0 => asOsl j7[3]? fun l1 l2 => asOsl j7[4]? fun l3 l4 => asOsl j7[5]? fun l5 l6 => asOsl j7[6]? fun l7 l8 => PI.asInt .i64 j7[7]? fun l9 => PI.asBool
 j7[8]? fun n0 => asOsl j7[9]? fun n1 n2 => PI.asInt .i64 j7[10]? fun n3 => some (tup [bool (j8 != 0)]) else some (tup [bool false]) else some (tup [bool false]) else some
 (tup [bool false]) else some (tup [bool false]) else some (tup [bool false]) else some (tup [bool false]) else need (O.R 0 31 [agg [int .i64 c1, int .i64 c2, sl c3 c4, sl
 c5 c6, sl c7 c8, sl c9 (bareL d0), int .i64 d1, bool d2, sl d3 (bareL d4), int .i64 d5]]) fun n4 => asTup (some n4) fun n5 => PI.asInt .i64 n5[0]? fun n6 => bif n6
 == 0 then bif c1 == a5 then bif f6 == 0 then need (O.R 0 20 [sl f7 f8, sl a7 a8]) fun n7 => asTup (some n7) fun n8 => PI.asBool n8[0]? fun n9 => bif n9 then some (tup [bool
 false]) else some (tup [bool false]) else some (tup [bool false]) else some (tup [bool false]) else some (tup [bool false]) else bif a5 == i64.wrap (f + 1) then need (O.R 0
 37 [sl w x, agg [int .i64 a5, int .i64 a6, sl a7 a8, sl a9 b0, sl b1 b2, sl b3 b4]]) fun p0 => asTup (some p0) fun p1 => PI.asBool p1[0]? fun p2 => need (O.R 0
 31 [agg [int .i64 c1, int .i64 c2, sl c3 c4, sl c5 c6, sl c7 c8, sl c9 (bareL d0), int .i64 d1, bool d2, sl d3 (bareL d4), int .i64 d5]]) fun p3 => asTup (some
 p3) fun p4 => PI.asInt .i64 p4[0]? fun p5 => bif p5 == 0 then bif c1 == a5 then bif f6 == 0 then need (O.R 0 20 [sl f7 f8, sl a7 a8]) fun p6 => asTup (some p6) fun p7 =>
 PI.asBool p7[0]? fun p8 => bif p8 then bif p2 then bif !d2 then need (O.R 0 34 [agg [int .i64 c1, int .i64 c2, sl c3 c4, sl c5 c6, sl c7 c8, sl c9 (bareL d0), int
 .i64 d1, bool d2, sl d3 (bareL d4), int .i64 d5], sl a3 a4, agg [int .i64 a5, int .i64 a6, sl a7 a8, sl a9 b0, sl b1 b2, sl b3 b4], sl b5 b6, int .i64
 b7]) fun p9 => asTup (some p9) fun v0 => PI.asInt .i64 v0[0]? fun v1 => PI.asInt .i64 v0[1]? fun v2 => PI.asInt .i64 v0[2]? fun v3 => asOsl v0[3]? fun v4 v5 => asOsl v0[4]?
 fun v6 v7 => asOsl v0[5]? fun v8 v9 => asOsl v0[6]? fun w0 w1 => PI.asInt .i64 v0[7]? fun w2 => PI.asBool v0[8]? fun w3 => asOsl v0[9]? fun w4 w5 => PI.asInt .i64
 v0[10]? fun w6 => some (tup [bool (v1 != 0)]) else some (tup [bool false]) else some (tup [bool false]) else some (tup [bool false]) else some (tup [bool false]) else some
 (tup [bool false]) else some (tup [bool false]) else need (O.R 0 31 [agg [int .i64 c1, int .i64 c2, sl c3 c4, sl c5 c6, sl c7 c8, sl c9 (bareL d0), int .i64 d1,
 bool d2, sl d3 (bareL d4), int .i64 d5]]) fun w7 => asTup (some w7) fun w8 => PI.asInt .i64 w8[0]? fun w9 => bif w9 == 0 then bif c1 == a5 then bif f6 == 0 then need (O.R 0 20
 [sl f7 f8, sl a7 a8]) fun x0 => asTup (some x0) fun x1 => PI.asBool x1[0]? fun x2 => bif x2 then some (tup [bool false]) else some (tup [bool false]) else some (tup
 [bool false]) else some (tup [bool false]) else some (tup [bool false])
theorem E7 (A B) {r : V} (h : T7 (orcE C) A B = some r) : runE C 7 [sl A B] = some r := ofR (j := 1) (F := fun s => T7 (orc C s.k) A B) (fun _ => by
 kernel_rfl) (by
  unfold T7
  repeat' first | (with_reducible first | intro _ | exact cC | apply cN cR | apply cT | apply cI | apply cF | apply cB | apply cL | apply cO | apply cN cC | exact cR)) h
def T8 (O : Orc) (A : Nat) (B : List V) : Option V := some (tup [bool (decide ((↑A : Int) > 1048576))])
theorem E8 (A B) {r : V} (h : T8 (orcE C) A B = some r) : runE C 8 [sl A B] = some r := ofR (j := 1) (F := fun s => T8 (orc C s.k) A B) (fun _ => by
 kernel_rfl) (by
  unfold T8
  exact cC) h
def T33 (O : Orc) (A : Nat) (B : List V) : Option V := need (O.R 0 107 [sl A B, int .i64 1]) fun a => asTup (some a) fun b => PI.asInt .i64 b[0]? fun c =>
 PI.asInt .i64 b[1]? fun d => asSl b[2]? fun e f => asSl b[3]? fun g i => asSl b[4]? fun j l => asSl b[5]? fun n p => PI.asInt .i64 b[6]? fun v => PI.asBool b[7]? fun w => asSl
 b[8]? fun x y => PI.asInt .i64 b[9]? fun z => asSl b[10]? fun a0 a1 => PI.asInt .i64 b[11]? fun a2 => PI.asInt .i64 b[12]? fun a3 => asSl b[13]? fun a4 a5 => asSl b[14]? fun a6 a7
 => asSl b[15]? fun a8 a9 => asSl b[16]? fun b0 b1 => asSl b[17]? fun b2 b3 => PI.asInt .i64 b[18]? fun b4 => some (tup [int .i64 c, int .i64 d, sl e f, sl g i, sl j l,
 sl n p, int .i64 v, bool w, sl x y, int .i64 z, sl a0 a1, int .i64 a2, int .i64 a3, sl a4 a5, sl a6 a7, sl a8 a9, sl b0 b1, sl b2 b3, int .i64
 b4])
theorem E33 (A B) {r : V} (h : T33 (orcE C) A B = some r) : runE C 33 [sl A B] = some r := ofR (j := 1) (F := fun s => T33 (orc C s.k) A B) (fun _ => by
 kernel_rfl) (by
  unfold T33
  repeat' first | (with_reducible first | intro _ | exact cC | apply cN cR | apply cT | apply cI | apply cB | apply cL | apply cN cC | exact cR)) h
def T34 (O : Orc) (A B : Int) (D : Nat) (G : List V) (H : Nat) (I : List V) (J : Nat) (K : List V) (L : Nat) (M : List V) (N : Int) (P : Bool) (Q : Nat) (R : List V) (S : Int) (U : Nat) (W : List V) (X Y : Int) (Z : Nat) (A0 : List V) (A1 : Nat) (A2 : List V) (A3 : Nat) (A4 : List V) (A5 : Nat) (A6 : List V) (A7 : Nat) (A8 : List V) (A9 : Int) : Option V := need (O.R 0 88 [agg [int .i64 A, int .i64 B, sl D G, sl H I, sl J K, sl L M, int .i64 N, bool P, sl Q R,
 int .i64 S], int .i64 A9]) fun a => asTup (some a) fun b => PI.asInt .i64 b[0]? fun c => bif c != 0 then some (tup [int .i64 c, int .i64 0, int .i64 0, osl 0 [], osl 0 [],
 osl 0 [], osl 0 [], int .i64 0, bool false, osl 0 [], int .i64 0]) else bif decide (X ≤ i64.wrap (A + 1)) then need (O.R 0 26 [agg [int .i64 A, int .i64 B, sl D G,
 sl H I, sl J K, sl L M, int .i64 N, bool P, sl Q R, int .i64 S], agg [int .i64 X, int .i64 Y, sl Z A0, sl A1 A2, sl A3 A4, sl A5 A6], sl A7
 A8, int .i64 A9]) fun d => asTup (some d) fun e => PI.asInt .i64 e[0]? fun f => PI.asInt .i64 e[1]? fun g => PI.asInt .i64 e[2]? fun i => asOsl e[3]? fun j l => asOsl e[4]? fun n
 p => asOsl e[5]? fun v w => asOsl e[6]? fun x y => PI.asInt .i64 e[7]? fun z => PI.asBool e[8]? fun a0 => asOsl e[9]? fun a1 a2 => PI.asInt .i64 e[10]? fun a3 => must (false ||
 l.all flatV) (must (false || p.all flatV) (must (false || w.all flatV) (some (tup [int .i64 f, int .i64 g, int .i64 i, osl j l, osl n p, osl v w, osl x y, int
 .i64 z, bool a0, osl a1 a2, int .i64 a3])))) else need (O.R 0 32 [agg [int .i64 A, int .i64 B, sl D G, sl H I, sl J K, sl L M, int .i64 N, bool P, sl Q
 R, int .i64 S], sl U W, agg [int .i64 X, int .i64 Y, sl Z A0, sl A1 A2, sl A3 A4, sl A5 A6], sl A7 A8, int .i64 A9]) fun a4 => asTup (some a4) fun a5
 => PI.asInt .i64 a5[0]? fun a6 => PI.asInt .i64 a5[1]? fun a7 => PI.asInt .i64 a5[2]? fun a8 => asOsl a5[3]? fun a9 b0 => asOsl a5[4]? fun b1 b2 => asOsl a5[5]? fun b3 b4 => asOsl
 a5[6]? fun b5 b6 => PI.asInt .i64 a5[7]? fun b7 => PI.asBool a5[8]? fun b8 => asOsl a5[9]? fun b9 c0 => PI.asInt .i64 a5[10]? fun c1 => must (false || b0.all flatV) (must (false ||
 b2.all flatV) (must (false || b4.all flatV) (some (tup [int .i64 a6, int .i64 a7, int .i64 a8, osl a9 b0, osl b1 b2, osl b3 b4, osl b5 b6, int .i64 b7, bool b8,
 osl b9 c0, int .i64 c1]))))
theorem E34 (A B D G H I J K L M N P Q R S U W X Y Z A0 A1 A2 A3 A4 A5 A6 A7 A8 A9) {r
 : V} (h : T34 (orcE C) A B D G H I J K L M N P Q R S U W X Y Z A0 A1 A2 A3 A4 A5 A6 A7 A8 A9 = some r) : runE C 34 [agg [int .i64 A, int .i64
 B, sl D G, sl H I, sl J K, sl L M, int .i64 N, bool P, sl Q R, int .i64 S], sl U W, agg [int .i64 X, int .i64 Y, sl Z A0, sl A1 A2, sl
 A3 A4, sl A5 A6], sl A7 A8, int .i64 A9] = some r := ofR (j := 1) (F := fun s => T34 (orc C s.k) A B D G H I J K L M N P Q R S U W X Y Z A0 A1
 A2 A3 A4 A5 A6 A7 A8 A9) (fun _ => by kernel_rfl) (by
  unfold T34
  repeat' first | (with_reducible first | intro _ | exact cC | apply cN cR | apply cT | apply cI | apply cM | apply cF | apply cB | apply cO | apply cN cC | exact cR)) h
def T35 (O : Orc) (A B : Int) (D : Nat) (G : List V) (H : Nat) (I : List V) (J : Nat) (K : List V) (L : Nat) (M : List V) (N : Int) (P : Bool) (Q : Nat) (R : List V) (S : Int) (U : Nat) (W : List V) (X Y : Int) (Z : Nat) (A0 : List V) (A1 : Nat) (A2 : List V) (A3 : Nat) (A4 : List V) (A5 : Nat) (A6 : List V) (A7 : Nat) (A8 : List V) (A9 : Int) : Option V := need (O.R 0 99 [agg [int .i64 A, int .i64 B, sl D G, sl H I, sl J K, sl L M, int .i64 N, bool P, sl Q R,
 int .i64 S], int .i64 A9]) fun a => asTup (some a) fun b => PI.asInt .i64 b[0]? fun c => bif c != 0 then some (tup [int .i64 c, int .i64 0, int .i64 0, sl 0 [], sl 0 [], sl
 0 [], sl 0 [], int .i64 0, bool false, sl 0 [], int .i64 0]) else bif decide (X ≤ i64.wrap (A + 1)) then need (O.R 0 100 [agg [int .i64 A, int .i64 B, sl D G, sl H
 I, sl J K, sl L M, int .i64 N, bool P, sl Q R, int .i64 S], agg [int .i64 X, int .i64 Y, sl Z A0, sl A1 A2, sl A3 A4, sl A5 A6], sl A7 A8,
 int .i64 A9]) fun d => asTup (some d) fun e => PI.asInt .i64 e[0]? fun f => PI.asInt .i64 e[1]? fun g => PI.asInt .i64 e[2]? fun i => asSl e[3]? fun j l => asSl e[4]? fun n p =>
 asSl e[5]? fun v w => asSl e[6]? fun x y => PI.asInt .i64 e[7]? fun z => PI.asBool e[8]? fun a0 => asSl e[9]? fun a1 a2 => PI.asInt .i64 e[10]? fun a3 => some (tup [int .i64
 f, int .i64 g, int .i64 i, sl j l, sl n p, sl v w, sl x y, int .i64 z, bool a0, sl a1 a2, int .i64 a3]) else need (O.R 0 108 [agg [int .i64 A, int
 .i64 B, sl D G, sl H I, sl J K, sl L M, int .i64 N, bool P, sl Q R, int .i64 S], sl U W, agg [int .i64 X, int .i64 Y, sl Z A0, sl A1 A2,
 sl A3 A4, sl A5 A6], sl A7 A8, int .i64 A9]) fun a4 => asTup (some a4) fun a5 => PI.asInt .i64 a5[0]? fun a6 => PI.asInt .i64 a5[1]? fun a7 => PI.asInt .i64 a5[2]? fun a8 =>
 asSl a5[3]? fun a9 b0 => asSl a5[4]? fun b1 b2 => asSl a5[5]? fun b3 b4 => asSl a5[6]? fun b5 b6 => PI.asInt .i64 a5[7]? fun b7 => PI.asBool a5[8]? fun b8 => asSl a5[9]? fun b9 c0
 => PI.asInt .i64 a5[10]? fun c1 => some (tup [int .i64 a6, int .i64 a7, int .i64 a8, sl a9 b0, sl b1 b2, sl b3 b4, sl b5 b6, int .i64 b7, bool b8, sl b9 c0,
 int .i64 c1])
theorem E35 (A B D G H I J K L M N P Q R S U W X Y Z A0 A1 A2 A3 A4 A5 A6 A7 A8 A9) {r
 : V} (h : T35 (orcE C) A B D G H I J K L M N P Q R S U W X Y Z A0 A1 A2 A3 A4 A5 A6 A7 A8 A9 = some r) : runE C 35 [agg [int .i64 A, int .i64
 B, sl D G, sl H I, sl J K, sl L M, int .i64 N, bool P, sl Q R, int .i64 S], sl U W, agg [int .i64 X, int .i64 Y, sl Z A0, sl A1 A2, sl
 A3 A4, sl A5 A6], sl A7 A8, int .i64 A9] = some r := ofR (j := 1) (F := fun s => T35 (orc C s.k) A B D G H I J K L M N P Q R S U W X Y Z A0 A1
 A2 A3 A4 A5 A6 A7 A8 A9) (fun _ => by kernel_rfl) (by
  unfold T35
  repeat' first | (with_reducible first | intro _ | exact cC | apply cN cR | apply cT | apply cI | apply cF | apply cB | apply cL | apply cN cC | exact cR)) h
def T36 (O : Orc) (A B : Int) (D : Nat) (G : List V) (H : Nat) (I : List V) (J : Nat) (K : List V) (L : Nat) (M : List V) (N : Int) (P : Bool) (Q : Nat) (R : List V) (S U : Int) : Option V := need (O.R 0 31 [agg [int .i64 A, int .i64 B, sl D G, sl H I, sl J K, sl L M, int .i64 N, bool P, sl
 Q R, int .i64 S]]) fun a => asTup (some a) fun b => PI.asInt .i64 b[0]? fun c => bif c != 0 then some (tup [int .i64 c, sl 0 []]) else need (O.R 0 109 [agg [int .i64 A, int
 .i64 B, sl D G, sl H I, sl J K, sl L M, int .i64 N, bool P, sl Q R, int .i64 S], int .i64 U]) fun d => asTup (some d) fun e => asSl e[0]? fun f g =>
 PI.asBool e[1]? fun i => bif !i then some (tup [int .i64 4, sl 0 []]) else need (O.R 0 110 [sl f g]) fun j => asTup (some j) fun l => asOsl l[0]? fun n p => some (tup [int
 .i64 0, sl n p])
theorem E36 (A B D G H I J K L M N P Q R S U) {r : V} (h : T36 (orcE C) A B D G H I J K L M N P Q R S U = some r) : runE C 36 [agg [int .i64 A, int .i64 B, sl D G, sl H I, sl J K,
 sl L M, int .i64 N, bool P, sl Q R, int .i64 S], int .i64 U] = some r := ofR (j := 1) (F := fun s => T36 (orc C s.k) A B D G H I J K L M N P Q
 R S U) (fun _ => by kernel_rfl) (by
  unfold T36
  repeat' first | (with_reducible first | intro _ | exact cC | apply cN cR | apply cT | apply cI | apply cF | apply cB | apply cL | apply cO | apply cN cC | exact cR)) h
def T37 (O : Orc) (A : Nat) (B : List V) (D G : Int) (H : Nat) (I : List V) (J : Nat) (K : List V) (L : Nat) (M : List V) (N : Nat) (P : List V) :
 Option V := need (O.R 0 75 [sl A B, agg [int .i64 D, int .i64 G, sl H I, sl J K, sl L M, sl N P]]) fun a => asTup (some a) fun b => PI.asInt .i64 b[0]? fun c => bif
 c == 0 then need (O.R 0 90 [sl A B, agg [int .i64 D, int .i64 G, sl H I, sl J K, sl L M, sl N P]]) fun d => asTup (some d) fun e => PI.asBool e[0]? fun f => some
 (tup [bool f]) else some (tup [bool false])
theorem E37 (A B D G H I J K L M N P) {r : V} (h : T37 (orcE C) A B
 D G H I J K L M N P = some r) : runE C 37 [sl A B, agg [int .i64 D, int .i64 G, sl H I, sl J K, sl L M, sl N P]] = some r := ofR (j := 1) (F := fun s => T37 (orc C s.k) A B D G H I J K L M N P) (fun _ => by kernel_rfl) (by
  unfold T37
  repeat' first | (with_reducible first | intro _ | exact cC | apply cN cR | apply cT | apply cI | apply cF | apply cB | apply cN cC | exact cR)) h
def T31 (O : Orc) (A B : Int) (D : Nat) (G : List V) (H : Nat) (I : List V) (J : Nat) (K : List V) (L : Nat) (M : List V) (N : Int) (P : Bool) (Q : Nat) (R : List V) (S : Int) : Option V := need (O.R 0 101 [agg [int .i64 A, int .i64 B, sl D G, sl H I, sl J K]]) fun a => asTup (some a) fun b => PI.asInt .i64
 b[0]? fun c => bif c != 0 then some (tup [int .i64 c]) else need (O.R 0 102 [sl L M]) fun d => asTup (some d) fun e => PI.asInt .i64 e[0]? fun f => bif f != 0 then some (tup
 [int .i64 f]) else need (O.R 0 103 [sl L M]) fun g => asTup (some g) fun i => asSl i[0]? fun j l => need (O.R 0 76 [sl J K, sl j l]) fun n => asTup (some n) fun p =>
 PI.asBool p[0]? fun v => bif !v then some (tup [int .i64 1]) else need (O.R 0 51 [int .i64 N, int .i64 1, int .i64 1099511627776]) fun w => asTup (some w) fun x => PI.asBool
 x[0]? fun y => bif !y then some (tup [int .i64 3]) else bif decide ((↑Q : Int) > 24) then some (tup [int .i64 2]) else bif (↑Q : Int) == 0 then some (tup [int .i64 1]) else bif
 decide (S < 1) then some (tup [int .i64 1]) else bif decide (S > 1000000) then some (tup [int .i64 1]) else bif i64.wrap (i64.wrap (S + (↑Q : Int)) - 1) != A then some
 (tup [int .i64 1]) else must (inB (i64.wrap ((↑Q : Int) - 1)) Q) (must (decide ((i64.wrap ((↑Q : Int) - 1)).toNat * 1 < R.length)) (asSl R[(i64.wrap ((↑Q : Int)
 - 1)).toNat * 1]? fun z a0 => need (O.R 0 76 [sl z a0, sl D G]) fun a1 => asTup (some a1) fun a2 => PI.asBool a2[0]? fun a3 => bif !a3 then some (tup [int .i64 1]) else need (O.R
 0 104 [sl Q R, fn 105 []]) fun a4 => asTup (some a4) fun a5 => PI.asBool a5[0]? fun a6 => bif a6 then some (tup [int .i64 1]) else some (tup [int .i64 0])))
theorem E31 (A B D G H I J K L M N P Q R S) {r
 : V} (h : T31 (orcE C) A B D G H I J K L M N P Q R S = some r) : runE C 31 [agg [int .i64 A, int .i64 B, sl D G, sl H I, sl J K, sl L M, int
 .i64 N, bool P, sl Q R, int .i64 S]] = some r := ofR (j := 1) (F := fun s => T31 (orc C s.k) A B D G H I J K L M N P Q R S) (fun _ => by kernel_rfl) (by
  unfold T31
  repeat' first | (with_reducible first | intro _ | exact cC | apply cN cR | apply cT | apply cI | apply cM | apply cF | apply cB | apply cL | apply cN cC | exact cR)) h
def T20 (O : Orc) (A : Nat) (B : List V) (D : Nat) (G : List V) : Option V := must (B.length.beq A && B.all isU8) (must (G.length.beq D && G.all isU8) (some
 (tup [bool (strEq (packB B) (packB G))])))
theorem E20 (A B D G) {r : V} (h : T20 (orcE C) A B D G = some r) : runE C 20 [sl A B, sl D G] = some r := ofR (j := 1) (F := fun s => T20 (orc C s.k) A B D G) (fun _ => by kernel_rfl) (by
  unfold T20
  repeat' first | (with_reducible first | intro _ | exact cC | apply cM)) h
def T107 (O : Orc) (A : Nat) (B : List V) (D : Int) : Option V := need (O.W 7 66 [] [ptr 0 0] [Ob.box 142 [sl A B, int .i64 0] false]) fun a => asTup (some
 a) fun b => PI.asInt .i64 b[0]? fun c => PI.asInt .i64 b[1]? fun d => asSl b[2]? fun e f => asSl b[3]? fun g i => asSl b[4]? fun j l => asSl b[5]? fun n p => PI.asInt .i64 b[6]?
 fun v => PI.asBool b[7]? fun w => asSl b[8]? fun x y => PI.asInt .i64 b[9]? fun z => asSl b[10]? fun a0 a1 => asSl b[11]? fun a2 a3 => asSl b[12]? fun a4 a5 => PI.asInt .i64
 b[13]? fun a6 => need (O.W 7 40 [] [ptr 0 0, int .i64 2] [Ob.box 142 [sl a4 a5, int .i64 a6] false]) fun a7 => asTup (some a7) fun a8 => PI.asBool a8[0]? fun a9 => asSl a8[1]? fun
 b0 b1 => PI.asInt .i64 a8[2]? fun b2 => bif a9 then need (O.W 7 41 [] [ptr 0 0, int .i64 3] [Ob.box 142 [sl b0 b1, int .i64 b2] false]) fun b3 => asTup (some b3) fun b4 => PI.asInt
 .i64 b4[0]? fun b5 => asSl b4[1]? fun b6 b7 => PI.asInt .i64 b4[2]? fun b8 => need (O.W 7 41 [] [ptr 0 0, int .i64 2] [Ob.box 142 [sl b6 b7, int .i64 b8] false]) fun b9 => asTup
 (some b9) fun c0 => PI.asInt .i64 c0[0]? fun c1 => asSl c0[1]? fun c2 c3 => PI.asInt .i64 c0[2]? fun c4 => need (O.W 7 67 [] [ptr 0 0, int .i64 (i64.wrap (1 + b5)), int .i64
 c1] [Ob.box 142 [sl c2 c3, int .i64 c4] false]) fun c5 => asTup (some c5) fun c6 => asSl c6[0]? fun c7 c8 => asSl c6[1]? fun c9 d0 => asSl c6[2]? fun d1 d2 => PI.asInt .i64 c6[3]?
 fun d3 => both (both (need (O.W 7 94 [] [ptr 0 0, sl 5 [int .i64 0, int .i64 1, int .i64 2, int .i64 30, int .i64 (-1)]] [Ob.box 142 [sl d1 d2, int .i64 d3] false]) fun d4 =>
 asTup (some d4) fun d5 => PI.asInt .i64 d5[0]? fun d6 => asSl d5[1]? fun d7 d8 => PI.asInt .i64 d5[2]? fun d9 => both (need (O.W 7 93 [] [ptr 0 0, agg [int .i64 c, int .i64 d, sl
 e f, sl g i, sl j l, sl n p, int .i64 v, bool w, sl x y, int .i64 z, sl a0 a1, sl a2 a3], int .i64 (i64.wrap (i64.wrap (c + D) + d6)),
 sl c9 d0, sl c7 c8] [Ob.box 142 [sl d7 d8, int .i64 d9] false]) fun e0 => asTup (some e0) fun e1 => PI.asInt .i64 e1[0]? fun e2 => PI.asInt .i64 e1[1]? fun e3 => asSl e1[2]? fun
 e4 e5 => asSl e1[3]? fun e6 e7 => asSl e1[4]? fun e8 e9 => asSl e1[5]? fun f0 f1 => asSl e1[6]? fun f2 f3 => asSl e1[7]? fun f4 f5 => PI.asInt .i64 e1[8]? fun f6 => need (O.W 7 40
 [] [ptr 0 0, int .i64 20] [Ob.box 142 [sl f4 f5, int .i64 f6] false]) fun f7 => asTup (some f7) fun f8 => PI.asBool f8[0]? fun f9 => asSl f8[1]? fun g0 g1 => PI.asInt .i64 f8[2]?
 fun g2 => bif f9 then need (O.W 7 95 [] [ptr 0 0, agg [int .i64 c, int .i64 d, sl e f, sl g i, sl j l, sl n p, int .i64 v, bool w, sl x y, int .i64 z]]
 [Ob.box 142 [sl g0 g1, int .i64 g2] false]) fun g3 => asTup (some g3) fun g4 => PI.asInt .i64 g4[0]? fun g5 => PI.asInt .i64 g4[1]? fun g6 => asSl g4[2]? fun g7 g8 => asSl g4[3]? fun
 g9 h0 => asSl g4[4]? fun h1 h2 => asSl g4[5]? fun h3 h4 => PI.asInt .i64 g4[6]? fun h5 => PI.asBool g4[7]? fun h6 => asSl g4[8]? fun h7 h8 => PI.asInt .i64 g4[9]? fun h9 => asSl
 g4[10]? fun i0 i1 => PI.asInt .i64 g4[11]? fun i2 => need (O.W 7 73 [] [ptr 0 0, agg [int .i64 c, int .i64 d, sl e f, sl g i, sl j l, sl n p, int .i64 v, bool
 w, sl x y, int .i64 z], agg [int .i64 e2, int .i64 e3, sl e4 e5, sl e6 e7, sl e8 e9, sl f0 f1]] [Ob.box 142 [sl i0 i1, int .i64 i2] false]) fun i3 =>
 asTup (some i3) fun i4 => PI.asInt .i64 i4[0]? fun i5 => asSl i4[1]? fun i6 i7 => PI.asInt .i64 i4[2]? fun i9 => some (tup [int .i64 g5, int .i64 g6, sl g7 g8, sl g9
 h0, sl h1 h2, sl h3 h4, int .i64 h5, bool h6, sl h7 h8, int .i64 h9, sl c9 d0, int .i64 e2, int .i64 e3, sl e4 e5, sl e6 e7, sl e8 e9, sl f0 f1, sl
 f2 f3, int .i64 i5]) else need (O.W 7 73 [] [ptr 0 0, agg [int .i64 c, int .i64 d, sl e f, sl g i, sl j l, sl n p, int .i64 v, bool w, sl x y, int
 .i64 z], agg [int .i64 e2, int .i64 e3, sl e4 e5, sl e6 e7, sl e8 e9, sl f0 f1]] [Ob.box 142 [sl g0 g1, int .i64 g2] false]) fun j0 => asTup (some j0) fun j1 =>
 PI.asInt .i64 j1[0]? fun j2 => asSl j1[1]? fun j3 j4 => PI.asInt .i64 j1[2]? fun j5 => some (tup [int .i64 c, int .i64 d, sl e f, sl g i, sl j l, sl n p, int
 .i64 v, bool w, sl x y, int .i64 z, sl c9 d0, int .i64 e2, int .i64 e3, sl e4 e5, sl e6 e7, sl e8 e9, sl f0 f1, sl f2 f3, int .i64 j2])) (need (O.W 7
 93 [] [ptr 0 0, agg [int .i64 c, int .i64 d, sl e f, sl g i, sl j l, sl n p, int .i64 v, bool w, sl x y, int .i64 z, sl a0 a1, sl a2 a3], int
 .i64 (i64.wrap (i64.wrap (c + D) + d6)), sl c9 d0, sl c7 c8] [Ob.box 142 [sl d7 d8, int .i64 d9] false]) fun j6 => asTup (some j6) fun j7 => PI.asInt .i64
 j7[0]? fun j8 => PI.asInt .i64 j7[1]? fun j9 => asSl j7[2]? fun l0 l1 => asSl j7[3]? fun l2 l3 => asSl j7[4]? fun l4 l5 => asSl j7[5]? fun l6 l7 => asSl j7[6]? fun
 l8 l9 => asSl j7[7]? fun n0 n1 => PI.asInt .i64 j7[8]? fun n2 => need (O.W 7 40 [] [ptr 0 0, int .i64 20] [Ob.box 142 [sl n0 n1, int .i64 n2] false]) fun n3 => asTup
 (some n3) fun n4 => PI.asBool n4[0]? fun n5 => asSl n4[1]? fun n6 n7 => PI.asInt .i64 n4[2]? fun n8 => bif n5 then need (O.W 7 95 [] [ptr 0 0, agg [int .i64 c, int .i64
 d, sl e f, sl g i, sl j l, sl n p, int .i64 v, bool w, sl x y, int .i64 z]] [Ob.box 142 [sl n6 n7, int .i64 n8] false]) fun n9 => asTup (some n9)
 fun p0 => PI.asInt .i64 p0[0]? fun p1 => PI.asInt .i64 p0[1]? fun p2 => asSl p0[2]? fun p3 p4 => asSl p0[3]? fun p5 p6 => asSl p0[4]? fun p7 p8 => asSl p0[5]? fun p9
 v0 => PI.asInt .i64 p0[6]? fun v1 => PI.asBool p0[7]? fun v2 => asSl p0[8]? fun v3 v4 => PI.asInt .i64 p0[9]? fun v5 => asSl p0[10]? fun v6 v7 => PI.asInt .i64 p0[11]? fun
 v8 => need (O.W 7 73 [] [ptr 0 0, agg [int .i64 c, int .i64 d, sl e f, sl g i, sl j l, sl n p, int .i64 v, bool w, sl x y, int .i64 z], agg [int
 .i64 j8, int .i64 j9, sl l0 l1, sl l2 l3, sl l4 l5, sl l6 l7]] [Ob.box 142 [sl v6 v7, int .i64 v8] false]) fun v9 => asTup (some v9) fun w0 => PI.asInt
 .i64 w0[0]? fun w1 => asSl w0[1]? fun w2 w3 => PI.asInt .i64 w0[2]? fun w4 => some (tup [int .i64 p1, int .i64 p2, sl p3 p4, sl p5 p6, sl p7 p8, sl p9
 v0, int .i64 v1, bool v2, sl v3 v4, int .i64 v5, sl c9 d0, int .i64 j8, int .i64 j9, sl l0 l1, sl l2 l3, sl l4 l5, sl l6 l7, sl l8 l9,
 int .i64 w1]) else need (O.W 7 73 [] [ptr 0 0, agg [int .i64 c, int .i64 d, sl e f, sl g i, sl j l, sl n p, int .i64 v, bool w, sl x y, int .i64 z],
 agg [int .i64 j8, int .i64 j9, sl l0 l1, sl l2 l3, sl l4 l5, sl l6 l7]] [Ob.box 142 [sl n6 n7, int .i64 n8] false]) fun w5 => asTup (some w5) fun w6
 => PI.asInt .i64 w6[0]? fun w7 => asSl w6[1]? fun w8 w9 => PI.asInt .i64 w6[2]? fun x0 => some (tup [int .i64 c, int .i64 d, sl e f, sl g i, sl j l, sl n p,
 int .i64 v, bool w, sl x y, int .i64 z, sl c9 d0, int .i64 j8, int .i64 j9, sl l0 l1, sl l2 l3, sl l4 l5, sl l6 l7, sl l8 l9, int .i64
 w7]))) (need (O.W 7 94 [] [ptr 0 0, sl 5 [int .i64 0, int .i64 1, int .i64 2, int .i64 30, int .i64 (-1)]] [Ob.box 142 [sl d1 d2, int .i64 d3] false]) fun x1 => asTup (some
 x1) fun x2 => PI.asInt .i64 x2[0]? fun x3 => asSl x2[1]? fun x4 x5 => PI.asInt .i64 x2[2]? fun x6 => need (O.W 7 93 [] [ptr 0 0, agg [int .i64 c, int .i64 d, sl e f,
 sl g i, sl j l, sl n p, int .i64 v, bool w, sl x y, int .i64 z, sl a0 a1, sl a2 a3], int .i64 (i64.wrap (i64.wrap (c + D) + x3)), sl
 c9 d0, sl c7 c8] [Ob.box 142 [sl x4 x5, int .i64 x6] false]) fun x7 => asTup (some x7) fun x8 => PI.asInt .i64 x8[0]? fun x9 => PI.asInt .i64 x8[1]? fun y0 => asSl
 x8[2]? fun y1 y2 => asSl x8[3]? fun y3 y4 => asSl x8[4]? fun y5 y6 => asSl x8[5]? fun y7 y8 => asSl x8[6]? fun y9 z0 => asSl x8[7]? fun z1 z2 => PI.asInt .i64
 x8[8]? fun z3 => need (O.W 7 40 [] [ptr 0 0, int .i64 20] [Ob.box 142 [sl z1 z2, int .i64 z3] false]) fun z4 => asTup (some z4) fun z5 => PI.asBool z5[0]? fun z6 => asSl
 z5[1]? fun z7 z8 => PI.asInt .i64 z5[2]? fun z9 => bif z6 then need (O.W 7 95 [] [ptr 0 0, agg [int .i64 c, int .i64 d, sl e f, sl g i, sl j l, sl n p, int
 .i64 v, bool w, sl x y, int .i64 z]] [Ob.box 142 [sl z7 z8, int .i64 z9] false]) fun a00 => asTup (some a00) fun a01 => PI.asInt .i64 a01[0]? fun a02 => PI.asInt .i64
 a01[1]? fun a03 => asSl a01[2]? fun a04 a05 => asSl a01[3]? fun a06 a07 => asSl a01[4]? fun a08 a09 => asSl a01[5]? fun a10 a11 => PI.asInt .i64 a01[6]? fun a12 => PI.asBool a01[7]?
 fun a13 => asSl a01[8]? fun a14 a15 => PI.asInt .i64 a01[9]? fun a16 => asSl a01[10]? fun a17 a18 => PI.asInt .i64 a01[11]? fun a19 => need (O.W 7 73 [] [ptr 0 0, agg [int .i64 c,
 int .i64 d, sl e f, sl g i, sl j l, sl n p, int .i64 v, bool w, sl x y, int .i64 z], agg [int .i64 x9, int .i64 y0, sl y1 y2, sl y3 y4,
 sl y5 y6, sl y7 y8]] [Ob.box 142 [sl a17 a18, int .i64 a19] false]) fun a20 => asTup (some a20) fun a21 => PI.asInt .i64 a21[0]? fun a22 => asSl a21[1]? fun a23 a24 =>
 PI.asInt .i64 a21[2]? fun a25 => some (tup [int .i64 a02, int .i64 a03, sl a04 a05, sl a06 a07, sl a08 a09, sl a10 a11, int .i64 a12, bool a13, sl a14 a15, int
 .i64 a16, sl c9 d0, int .i64 x9, int .i64 y0, sl y1 y2, sl y3 y4, sl y5 y6, sl y7 y8, sl y9 z0, int .i64 a22]) else need (O.W 7 73 [] [ptr 0 0, agg
 [int .i64 c, int .i64 d, sl e f, sl g i, sl j l, sl n p, int .i64 v, bool w, sl x y, int .i64 z], agg [int .i64 x9, int .i64 y0, sl y1 y2,
 sl y3 y4, sl y5 y6, sl y7 y8]] [Ob.box 142 [sl z7 z8, int .i64 z9] false]) fun a26 => asTup (some a26) fun a27 => PI.asInt .i64 a27[0]? fun a28 => asSl a27[1]? fun
 a29 a30 => PI.asInt .i64 a27[2]? fun a31 => some (tup [int .i64 c, int .i64 d, sl e f, sl g i, sl j l, sl n p, int .i64 v, bool w, sl x y, int .i64 z,
 sl c9 d0, int .i64 x9, int .i64 y0, sl y1 y2, sl y3 y4, sl y5 y6, sl y7 y8, sl y9 z0, int .i64 a28]))) (need (O.W 7 94 [] [ptr 0 0, sl 5 [int .i64 0,
 int .i64 1, int .i64 2, int .i64 30, int .i64 (-1)]] [Ob.box 142 [sl d1 d2, int .i64 d3] false]) fun a32 => asTup (some a32) fun a33 => PI.asInt .i64 a33[0]? fun a34 => asSl
 a33[1]? fun a35 a36 => PI.asInt .i64 a33[2]? fun a37 => need (O.W 7 93 [] [ptr 0 0, agg [int .i64 c, int .i64 d, sl e f, sl g i, sl j l, sl n p, int .i64 v,
 bool w, sl x y, int .i64 z, sl a0 a1, sl a2 a3], int .i64 (i64.wrap (i64.wrap (c + D) + a34)), sl c9 d0, sl c7 c8] [Ob.box 142 [sl a35 a36, int
 .i64 a37] false]) fun a38 => asTup (some a38) fun a39 => PI.asInt .i64 a39[0]? fun a40 => PI.asInt .i64 a39[1]? fun a41 => asSl a39[2]? fun a42 a43 => asSl a39[3]? fun a44 a45 => asSl
 a39[4]? fun a46 a47 => asSl a39[5]? fun a48 a49 => asSl a39[6]? fun a50 a51 => asSl a39[7]? fun a52 a53 => PI.asInt .i64 a39[8]? fun a54 => need (O.W 7 40 [] [ptr 0 0, int .i64 20]
 [Ob.box 142 [sl a52 a53, int .i64 a54] false]) fun a55 => asTup (some a55) fun a56 => PI.asBool a56[0]? fun a57 => asSl a56[1]? fun a58 a59 => PI.asInt .i64 a56[2]? fun a60 => bif
 a57 then need (O.W 7 95 [] [ptr 0 0, agg [int .i64 c, int .i64 d, sl e f, sl g i, sl j l, sl n p, int .i64 v, bool w, sl x y, int .i64 z]] [Ob.box 142
 [sl a58 a59, int .i64 a60] false]) fun a61 => asTup (some a61) fun a62 => PI.asInt .i64 a62[0]? fun a63 => PI.asInt .i64 a62[1]? fun a64 => asSl a62[2]? fun a65 a66 => asSl a62[3]?
 fun a67 a68 => asSl a62[4]? fun a69 a70 => asSl a62[5]? fun a71 a72 => PI.asInt .i64 a62[6]? fun a73 => PI.asBool a62[7]? fun a74 => asSl a62[8]? fun a75 a76 => PI.asInt .i64 a62[9]?
 fun a77 => asSl a62[10]? fun a78 a79 => PI.asInt .i64 a62[11]? fun a80 => need (O.W 7 73 [] [ptr 0 0, agg [int .i64 c, int .i64 d, sl e f, sl g i, sl j l, sl n p,
 int .i64 v, bool w, sl x y, int .i64 z], agg [int .i64 a40, int .i64 a41, sl a42 a43, sl a44 a45, sl a46 a47, sl a48 a49]] [Ob.box 142 [sl a78 a79, int
 .i64 a80] false]) fun a81 => asTup (some a81) fun a82 => PI.asInt .i64 a82[0]? fun a83 => asSl a82[1]? fun a84 a85 => PI.asInt .i64 a82[2]? fun a86 => some (tup [int .i64 a63, int
 .i64 a64, sl a65 a66, sl a67 a68, sl a69 a70, sl a71 a72, int .i64 a73, bool a74, sl a75 a76, int .i64 a77, sl c9 d0, int .i64 a40, int .i64 a41, sl a42
 a43, sl a44 a45, sl a46 a47, sl a48 a49, sl a50 a51, int .i64 a83]) else need (O.W 7 73 [] [ptr 0 0, agg [int .i64 c, int .i64 d, sl e f, sl g i, sl j l,
 sl n p, int .i64 v, bool w, sl x y, int .i64 z], agg [int .i64 a40, int .i64 a41, sl a42 a43, sl a44 a45, sl a46 a47, sl a48 a49]] [Ob.box 142 [sl
 a58 a59, int .i64 a60] false]) fun a87 => asTup (some a87) fun a88 => PI.asInt .i64 a88[0]? fun a89 => asSl a88[1]? fun a90 a91 => PI.asInt .i64 a88[2]? fun a92 => some (tup [int
 .i64 c, int .i64 d, sl e f, sl g i, sl j l, sl n p, int .i64 v, bool w, sl x y, int .i64 z, sl c9 d0, int .i64 a40, int .i64 a41, sl a42 a43,
 sl a44 a45, sl a46 a47, sl a48 a49, sl a50 a51, int .i64 a89])) else both (both (need (O.W 7 94 [] [ptr 0 0, sl 5 [int .i64 0, int .i64 1, int .i64 2, int .i64 30, int
 .i64 (-1)]] [Ob.box 142 [sl b0 b1, int .i64 b2] false]) fun a93 => asTup (some a93) fun a94 => PI.asInt .i64 a94[0]? fun a95 => asSl a94[1]? fun a96 a97 => PI.asInt .i64 a94[2]? fun
 a98 => both (need (O.W 7 93 [] [ptr 0 0, agg [int .i64 c, int .i64 d, sl e f, sl g i, sl j l, sl n p, int .i64 v, bool w, sl x y, int .i64 z, sl a0
 a1, sl a2 a3], int .i64 (i64.wrap (i64.wrap (c + D) + a95)), sl n p, sl a0 a1] [Ob.box 142 [sl a96 a97, int .i64 a98] false]) fun a99 => asTup (some a99)
 fun b00 => PI.asInt .i64 b00[0]? fun b01 => PI.asInt .i64 b00[1]? fun b02 => asSl b00[2]? fun b03 b04 => asSl b00[3]? fun b05 b06 => asSl b00[4]? fun b07 b08 => asSl b00[5]? fun b09
 b10 => asSl b00[6]? fun b11 b12 => asSl b00[7]? fun b13 b14 => PI.asInt .i64 b00[8]? fun b15 => need (O.W 7 40 [] [ptr 0 0, int .i64 20] [Ob.box 142 [sl b13 b14, int .i64 b15]
 false]) fun b16 => asTup (some b16) fun b17 => PI.asBool b17[0]? fun b18 => asSl b17[1]? fun b19 b20 => PI.asInt .i64 b17[2]? fun b21 => bif b18 then need (O.W 7 95 [] [ptr 0 0, agg
 [int .i64 c, int .i64 d, sl e f, sl g i, sl j l, sl n p, int .i64 v, bool w, sl x y, int .i64 z]] [Ob.box 142 [sl b19 b20, int .i64 b21] false]) fun
 b22 => asTup (some b22) fun b23 => PI.asInt .i64 b23[0]? fun b24 => PI.asInt .i64 b23[1]? fun b25 => asSl b23[2]? fun b26 b27 => asSl b23[3]? fun b28 b29 => asSl b23[4]? fun b30 b31 =>
 asSl b23[5]? fun b32 b33 => PI.asInt .i64 b23[6]? fun b34 => PI.asBool b23[7]? fun b35 => asSl b23[8]? fun b36 b37 => PI.asInt .i64 b23[9]? fun b38 => asSl b23[10]? fun b39 b40 =>
 PI.asInt .i64 b23[11]? fun b41 => need (O.W 7 73 [] [ptr 0 0, agg [int .i64 c, int .i64 d, sl e f, sl g i, sl j l, sl n p, int .i64 v, bool w, sl x y,
 int .i64 z], agg [int .i64 b01, int .i64 b02, sl b03 b04, sl b05 b06, sl b07 b08, sl b09 b10]] [Ob.box 142 [sl b39 b40, int .i64 b41] false]) fun b42 => asTup (some
 b42) fun b43 => PI.asInt .i64 b43[0]? fun b44 => asSl b43[1]? fun b45 b46 => PI.asInt .i64 b43[2]? fun b47 => some (tup [int .i64 b24, int .i64 b25, sl b26 b27, sl b28 b29,
 sl b30 b31, sl b32 b33, int .i64 b34, bool b35, sl b36 b37, int .i64 b38, sl n p, int .i64 b01, int .i64 b02, sl b03 b04, sl b05 b06, sl b07 b08, sl b09
 b10, sl b11 b12, int .i64 b44]) else need (O.W 7 73 [] [ptr 0 0, agg [int .i64 c, int .i64 d, sl e f, sl g i, sl j l, sl n p, int .i64 v, bool w, sl x
 y, int .i64 z], agg [int .i64 b01, int .i64 b02, sl b03 b04, sl b05 b06, sl b07 b08, sl b09 b10]] [Ob.box 142 [sl b19 b20, int .i64 b21] false]) fun b48 => asTup
 (some b48) fun b49 => PI.asInt .i64 b49[0]? fun b50 => asSl b49[1]? fun b51 b52 => PI.asInt .i64 b49[2]? fun b53 => some (tup [int .i64 c, int .i64 d, sl e f, sl g i, sl j
 l, sl n p, int .i64 v, bool w, sl x y, int .i64 z, sl n p, int .i64 b01, int .i64 b02, sl b03 b04, sl b05 b06, sl b07 b08, sl b09 b10, sl b11
 b12, int .i64 b50])) (need (O.W 7 93 [] [ptr 0 0, agg [int .i64 c, int .i64 d, sl e f, sl g i, sl j l, sl n p, int .i64 v, bool w, sl x y, int .i64
 z, sl a0 a1, sl a2 a3], int .i64 (i64.wrap (i64.wrap (c + D) + a95)), sl n p, sl a0 a1] [Ob.box 142 [sl a96 a97, int .i64 a98] false]) fun b54 => asTup
 (some b54) fun b55 => PI.asInt .i64 b55[0]? fun b56 => PI.asInt .i64 b55[1]? fun b57 => asSl b55[2]? fun b58 b59 => asSl b55[3]? fun b60 b61 => asSl b55[4]? fun b62 b63 => asSl b55[5]?
 fun b64 b65 => asSl b55[6]? fun b66 b67 => asSl b55[7]? fun b68 b69 => PI.asInt .i64 b55[8]? fun b70 => need (O.W 7 40 [] [ptr 0 0, int .i64 20] [Ob.box 142 [sl b68 b69, int .i64
 b70] false]) fun b71 => asTup (some b71) fun b72 => PI.asBool b72[0]? fun b73 => asSl b72[1]? fun b74 b75 => PI.asInt .i64 b72[2]? fun b76 => bif b73 then need (O.W 7 95 [] [ptr 0 0,
 agg [int .i64 c, int .i64 d, sl e f, sl g i, sl j l, sl n p, int .i64 v, bool w, sl x y, int .i64 z]] [Ob.box 142 [sl b74 b75, int .i64 b76] false])
 fun b77 => asTup (some b77) fun b78 => PI.asInt .i64 b78[0]? fun b79 => PI.asInt .i64 b78[1]? fun b80 => asSl b78[2]? fun b81 b82 => asSl b78[3]? fun b83 b84 => asSl b78[4]? fun b85
 b86 => asSl b78[5]? fun b87 b88 => PI.asInt .i64 b78[6]? fun b89 => PI.asBool b78[7]? fun b90 => asSl b78[8]? fun b91 b92 => PI.asInt .i64 b78[9]? fun b93 => asSl b78[10]? fun b94 b95
 => PI.asInt .i64 b78[11]? fun b96 => need (O.W 7 73 [] [ptr 0 0, agg [int .i64 c, int .i64 d, sl e f, sl g i, sl j l, sl n p, int .i64 v, bool w, sl x y,
 int .i64 z], agg [int .i64 b56, int .i64 b57, sl b58 b59, sl b60 b61, sl b62 b63, sl b64 b65]] [Ob.box 142 [sl b94 b95, int .i64 b96] false]) fun b97 => asTup (some
 b97) fun b98 => PI.asInt .i64 b98[0]? fun b99 => asSl b98[1]? fun c00 c01 => PI.asInt .i64 b98[2]? fun c02 => some (tup [int .i64 b79, int .i64 b80, sl b81 b82, sl b83 b84,
 sl b85 b86, sl b87 b88, int .i64 b89, bool b90, sl b91 b92, int .i64 b93, sl n p, int .i64 b56, int .i64 b57, sl b58 b59, sl b60 b61, sl b62 b63, sl b64
 b65, sl b66 b67, int .i64 b99]) else need (O.W 7 73 [] [ptr 0 0, agg [int .i64 c, int .i64 d, sl e f, sl g i, sl j l, sl n p, int .i64 v, bool w, sl x
 y, int .i64 z], agg [int .i64 b56, int .i64 b57, sl b58 b59, sl b60 b61, sl b62 b63, sl b64 b65]] [Ob.box 142 [sl b74 b75, int .i64 b76] false]) fun c03 => asTup
 (some c03) fun c04 => PI.asInt .i64 c04[0]? fun c05 => asSl c04[1]? fun c06 c07 => PI.asInt .i64 c04[2]? fun c08 => some (tup [int .i64 c, int .i64 d, sl e f, sl g i, sl j
 l, sl n p, int .i64 v, bool w, sl x y, int .i64 z, sl n p, int .i64 b56, int .i64 b57, sl b58 b59, sl b60 b61, sl b62 b63, sl b64 b65, sl b66
 b67, int .i64 c05]))) (need (O.W 7 94 [] [ptr 0 0, sl 5 [int .i64 0, int .i64 1, int .i64 2, int .i64 30, int .i64 (-1)]] [Ob.box 142 [sl b0 b1, int .i64 b2] false]) fun c09
 => asTup (some c09) fun c10 => PI.asInt .i64 c10[0]? fun c11 => asSl c10[1]? fun c12 c13 => PI.asInt .i64 c10[2]? fun c14 => need (O.W 7 93 [] [ptr 0 0, agg [int .i64 c, int .i64 d,
 sl e f, sl g i, sl j l, sl n p, int .i64 v, bool w, sl x y, int .i64 z, sl a0 a1, sl a2 a3], int .i64 (i64.wrap (i64.wrap (c + D) +
 c11)), sl n p, sl a0 a1] [Ob.box 142 [sl c12 c13, int .i64 c14] false]) fun c15 => asTup (some c15) fun c16 => PI.asInt .i64 c16[0]? fun c17 => PI.asInt .i64 c16[1]? fun c18
 => asSl c16[2]? fun c19 c20 => asSl c16[3]? fun c21 c22 => asSl c16[4]? fun c23 c24 => asSl c16[5]? fun c25 c26 => asSl c16[6]? fun c27 c28 => asSl c16[7]? fun c29 c30 => PI.asInt
 .i64 c16[8]? fun c31 => need (O.W 7 40 [] [ptr 0 0, int .i64 20] [Ob.box 142 [sl c29 c30, int .i64 c31] false]) fun c32 => asTup (some c32) fun c33 => PI.asBool c33[0]? fun c34 =>
 asSl c33[1]? fun c35 c36 => PI.asInt .i64 c33[2]? fun c37 => bif c34 then need (O.W 7 95 [] [ptr 0 0, agg [int .i64 c, int .i64 d, sl e f, sl g i, sl j l, sl n p,
 int .i64 v, bool w, sl x y, int .i64 z]] [Ob.box 142 [sl c35 c36, int .i64 c37] false]) fun c38 => asTup (some c38) fun c39 => PI.asInt .i64 c39[0]? fun c40 => PI.asInt
 .i64 c39[1]? fun c41 => asSl c39[2]? fun c42 c43 => asSl c39[3]? fun c44 c45 => asSl c39[4]? fun c46 c47 => asSl c39[5]? fun c48 c49 => PI.asInt .i64 c39[6]? fun c50 => PI.asBool
 c39[7]? fun c51 => asSl c39[8]? fun c52 c53 => PI.asInt .i64 c39[9]? fun c54 => asSl c39[10]? fun c55 c56 => PI.asInt .i64 c39[11]? fun c57 => need (O.W 7 73 [] [ptr 0 0, agg [int
 .i64 c, int .i64 d, sl e f, sl g i, sl j l, sl n p, int .i64 v, bool w, sl x y, int .i64 z], agg [int .i64 c17, int .i64 c18, sl c19 c20, sl c21
 c22, sl c23 c24, sl c25 c26]] [Ob.box 142 [sl c55 c56, int .i64 c57] false]) fun c58 => asTup (some c58) fun c59 => PI.asInt .i64 c59[0]? fun c60 => asSl c59[1]? fun c61 c62 =>
 PI.asInt .i64 c59[2]? fun c63 => some (tup [int .i64 c40, int .i64 c41, sl c42 c43, sl c44 c45, sl c46 c47, sl c48 c49, int .i64 c50, bool c51, sl c52 c53, int
 .i64 c54, sl n p, int .i64 c17, int .i64 c18, sl c19 c20, sl c21 c22, sl c23 c24, sl c25 c26, sl c27 c28, int .i64 c60]) else need (O.W 7 73 [] [ptr 0 0, agg
 [int .i64 c, int .i64 d, sl e f, sl g i, sl j l, sl n p, int .i64 v, bool w, sl x y, int .i64 z], agg [int .i64 c17, int .i64 c18, sl c19 c20,
 sl c21 c22, sl c23 c24, sl c25 c26]] [Ob.box 142 [sl c35 c36, int .i64 c37] false]) fun c64 => asTup (some c64) fun c65 => PI.asInt .i64 c65[0]? fun c66 => asSl c65[1]? fun
 c67 c68 => PI.asInt .i64 c65[2]? fun c69 => some (tup [int .i64 c, int .i64 d, sl e f, sl g i, sl j l, sl n p, int .i64 v, bool w, sl x y, int .i64 z,
 sl n p, int .i64 c17, int .i64 c18, sl c19 c20, sl c21 c22, sl c23 c24, sl c25 c26, sl c27 c28, int .i64 c66]))) (need (O.W 7 94 [] [ptr 0 0, sl 5 [int .i64 0,
 int .i64 1, int .i64 2, int .i64 30, int .i64 (-1)]] [Ob.box 142 [sl b0 b1, int .i64 b2] false]) fun c70 => asTup (some c70) fun c71 => PI.asInt .i64 c71[0]? fun c72 => asSl
 c71[1]? fun c73 c74 => PI.asInt .i64 c71[2]? fun c75 => need (O.W 7 93 [] [ptr 0 0, agg [int .i64 c, int .i64 d, sl e f, sl g i, sl j l, sl n p, int .i64 v,
 bool w, sl x y, int .i64 z, sl a0 a1, sl a2 a3], int .i64 (i64.wrap (i64.wrap (c + D) + c72)), sl n p, sl a0 a1] [Ob.box 142 [sl c73 c74, int
 .i64 c75] false]) fun c76 => asTup (some c76) fun c77 => PI.asInt .i64 c77[0]? fun c78 => PI.asInt .i64 c77[1]? fun c79 => asSl c77[2]? fun c80 c81 => asSl c77[3]? fun c82 c83 => asSl
 c77[4]? fun c84 c85 => asSl c77[5]? fun c86 c87 => asSl c77[6]? fun c88 c89 => asSl c77[7]? fun c90 c91 => PI.asInt .i64 c77[8]? fun c92 => need (O.W 7 40 [] [ptr 0 0, int .i64 20]
 [Ob.box 142 [sl c90 c91, int .i64 c92] false]) fun c93 => asTup (some c93) fun c94 => PI.asBool c94[0]? fun c95 => asSl c94[1]? fun c96 c97 => PI.asInt .i64 c94[2]? fun c98 => bif
 c95 then need (O.W 7 95 [] [ptr 0 0, agg [int .i64 c, int .i64 d, sl e f, sl g i, sl j l, sl n p, int .i64 v, bool w, sl x y, int .i64 z]] [Ob.box 142
 [sl c96 c97, int .i64 c98] false]) fun c99 => asTup (some c99) fun d00 => PI.asInt .i64 d00[0]? fun d01 => PI.asInt .i64 d00[1]? fun d02 => asSl d00[2]? fun d03 d04 => asSl d00[3]?
 fun d05 d06 => asSl d00[4]? fun d07 d08 => asSl d00[5]? fun d09 d10 => PI.asInt .i64 d00[6]? fun d11 => PI.asBool d00[7]? fun d12 => asSl d00[8]? fun d13 d14 => PI.asInt .i64 d00[9]?
 fun d15 => asSl d00[10]? fun d16 d17 => PI.asInt .i64 d00[11]? fun d18 => need (O.W 7 73 [] [ptr 0 0, agg [int .i64 c, int .i64 d, sl e f, sl g i, sl j l, sl n p,
 int .i64 v, bool w, sl x y, int .i64 z], agg [int .i64 c78, int .i64 c79, sl c80 c81, sl c82 c83, sl c84 c85, sl c86 c87]] [Ob.box 142 [sl d16 d17, int
 .i64 d18] false]) fun d19 => asTup (some d19) fun d20 => PI.asInt .i64 d20[0]? fun d21 => asSl d20[1]? fun d22 d23 => PI.asInt .i64 d20[2]? fun d24 => some (tup [int .i64 d01, int
 .i64 d02, sl d03 d04, sl d05 d06, sl d07 d08, sl d09 d10, int .i64 d11, bool d12, sl d13 d14, int .i64 d15, sl n p, int .i64 c78, int .i64 c79, sl c80
 c81, sl c82 c83, sl c84 c85, sl c86 c87, sl c88 c89, int .i64 d21]) else need (O.W 7 73 [] [ptr 0 0, agg [int .i64 c, int .i64 d, sl e f, sl g i, sl j l,
 sl n p, int .i64 v, bool w, sl x y, int .i64 z], agg [int .i64 c78, int .i64 c79, sl c80 c81, sl c82 c83, sl c84 c85, sl c86 c87]] [Ob.box 142 [sl
 c96 c97, int .i64 c98] false]) fun d25 => asTup (some d25) fun d26 => PI.asInt .i64 d26[0]? fun d27 => asSl d26[1]? fun d28 d29 => PI.asInt .i64 d26[2]? fun d30 => some (tup [int
 .i64 c, int .i64 d, sl e f, sl g i, sl j l, sl n p, int .i64 v, bool w, sl x y, int .i64 z, sl n p, int .i64 c78, int .i64 c79, sl c80 c81,
 sl c82 c83, sl c84 c85, sl c86 c87, sl c88 c89, int .i64 d27]))
theorem E107 (A B D) {r : V} (h : T107 (orcE C) A B D = some r) : runE C 107 [sl A B, int .i64 D] = some r := ofR (j := 8) (F := fun s => T107 (orc C s.k) A B D) (fun _ => by kernel_rfl) (by
  unfold T107
  repeat' first | (with_reducible first | intro _ | exact cC | apply cN cQ | apply cT | apply cI | apply cF | apply cB | apply cL | apply cN cC | apply cW | exact cQ)) h
def T88 (O : Orc) (A B : Int) (D : Nat) (G : List V) (H : Nat) (I : List V) (J : Nat) (K : List V) (L : Nat) (M : List V) (N : Int) (P : Bool) (Q : Nat) (R : List V) (S U : Int) : Option V := need (O.R 0 31 [agg [int .i64 A, int .i64 B, sl D G, sl H I, sl J K, sl L M, int .i64 N, bool P, sl
 Q R, int .i64 S]]) fun a => asTup (some a) fun b => PI.asInt .i64 b[0]? fun c => bif c != 0 then some (tup [int .i64 c]) else bif P then some (tup [int .i64 9]) else need (O.R
 0 74 [agg [int .i64 A, int .i64 B, sl D G, sl H I, sl J K, sl L M, int .i64 N, bool P, sl Q R, int .i64 S], int .i64 U]) fun d => asTup (some d) fun e
 => PI.asBool e[0]? fun f => bif f then some (tup [int .i64 10]) else some (tup [int .i64 0])
theorem E88 (A B D G H I J K L M N P Q R S U) {r : V} (h : T88 (orcE C) A B D G H I J K L M N P Q R S U = some r) : runE C 88 [agg [int .i64 A, int .i64 B, sl D G, sl H I, sl J K,
 sl L M, int .i64 N, bool P, sl Q R, int .i64 S], int .i64 U] = some r := ofR (j := 1) (F := fun s => T88 (orc C s.k) A B D G H I J K L M N P Q
 R S U) (fun _ => by kernel_rfl) (by
  unfold T88
  repeat' first | (with_reducible first | intro _ | exact cC | apply cN cR | apply cT | apply cI | apply cF | apply cB | apply cN cC | exact cR)) h
def T26 (O : Orc) (A B : Int) (D : Nat) (G : List V) (H : Nat) (I : List V) (J : Nat) (K : List V) (L : Nat) (M : List V) (N : Int) (P : Bool) (Q : Nat) (R : List V) (S U W : Int) (X : Nat) (Y : List V) (Z : Nat) (A0 : List V) (A1 : Nat) (A2 : List V) (A3 : Nat) (A4 : List V) (A5 : Nat) (A6 : List V) (A7 : Int) : Option V := need (O.R 0 88 [agg [int .i64 A, int .i64 B, sl D G, sl H I, sl J K, sl L M, int .i64 N, bool P, sl Q R, int .i64 S], int .i64
 A7]) fun a => asTup (some a) fun b => PI.asInt .i64 b[0]? fun c => bif c != 0 then some (tup [int .i64 c, int .i64 0, int .i64 0, osl 0 [], osl 0 [], osl 0 [], osl 0 [], int
 .i64 0, bool false, osl 0 [], int .i64 0]) else need (O.R 0 75 [sl L M, agg [int .i64 U, int .i64 W, sl X Y, sl Z A0, sl A1 A2, sl A3 A4]]) fun d => asTup
 (some d) fun e => PI.asInt .i64 e[0]? fun f => bif f != 0 then some (tup [int .i64 f, int .i64 0, int .i64 0, osl 0 [], osl 0 [], osl 0 [], osl 0 [], int .i64 0, bool false,
 osl 0 [], int .i64 0]) else need (O.R 0 89 [agg [int .i64 A, int .i64 B, sl D G, sl H I, sl J K, sl L M, int .i64 N, bool P, sl Q R, int .i64 S], agg
 [int .i64 U, int .i64 W, sl X Y, sl Z A0, sl A1 A2], bool (U == i64.wrap (A + 1)), int .i64 A7]) fun g => asTup (some g) fun i => PI.asInt .i64 i[0]? fun j
 => bif j != 0 then some (tup [int .i64 j, int .i64 0, int .i64 0, osl 0 [], osl 0 [], osl 0 [], osl 0 [], int .i64 0, bool false, osl 0 [], int .i64 0]) else need (O.R 0 90
 [sl L M, agg [int .i64 U, int .i64 W, sl X Y, sl Z A0, sl A1 A2, sl A3 A4]]) fun l => asTup (some l) fun n => PI.asBool n[0]? fun p => bif !p then some
 (tup [int .i64 6, int .i64 0, int .i64 0, osl 0 [], osl 0 [], osl 0 [], osl 0 [], int .i64 0, bool false, osl 0 [], int .i64 0]) else need (O.R 0 91 [agg [int .i64 A,
 int .i64 B, sl D G, sl H I, sl J K, sl L M, int .i64 N, bool P, sl Q R, int .i64 S], agg [int .i64 U, int .i64 W, sl X Y, sl Z A0, sl A1
 A2], sl A5 A6]) fun v => asTup (some v) fun w => PI.asInt .i64 w[0]? fun x => PI.asInt .i64 w[1]? fun y => PI.asInt .i64 w[2]? fun z => asOsl w[3]? fun a0 a1 => asOsl
 w[4]? fun a2 a3 => asOsl w[5]? fun a4 a5 => asOsl w[6]? fun a6 a7 => PI.asInt .i64 w[7]? fun a8 => PI.asBool w[8]? fun a9 => asOsl w[9]? fun b0 b1 => PI.asInt .i64 w[10]? fun
 b2 => must (false || a1.all flatV) (must (false || a3.all flatV) (must (false || a5.all flatV) (some (tup [int .i64 x, int .i64 y, int .i64 z, osl a0 a1, osl a2 a3, osl a4
 a5, osl a6 a7, int .i64 a8, bool a9, osl b0 b1, int .i64 b2]))))
theorem E26 (A B D G H I J K L M N P Q R S U W X Y Z A0 A1 A2 A3 A4 A5 A6 A7) {r : V} (h : T26 (orcE C) A B D G H I J K L M N P Q R S U W X Y Z A0 A1 A2 A3 A4 A5 A6 A7 = some r) : runE C 26 [agg [int .i64 A, int .i64 B, sl D G, sl H I, sl J
 K, sl L M, int .i64 N, bool P, sl Q R, int .i64 S], agg [int .i64 U, int .i64 W, sl X Y, sl Z A0, sl A1 A2, sl A3 A4], sl A5 A6, int .i64
 A7] = some r := ofR (j := 1) (F := fun s => T26 (orc C s.k) A B D G H I J K L M N P Q R S U W X Y Z A0 A1 A2 A3 A4 A5 A6 A7) (fun _ => by
 kernel_rfl) (by
  unfold T26
  repeat' first | (with_reducible first | intro _ | exact cC | apply cN cR | apply cT | apply cI | apply cM | apply cF | apply cB | apply cO | apply cN cC | exact cR)) h
def T32 (O : Orc) (A B : Int) (D : Nat) (G : List V) (H : Nat) (I : List V) (J : Nat) (K : List V) (L : Nat) (M : List V) (N : Int) (P : Bool) (Q : Nat) (R : List V) (S : Int) (U : Nat) (W : List V) (X Y : Int) (Z : Nat) (A0 : List V) (A1 : Nat) (A2 : List V) (A3 : Nat) (A4 : List V) (A5 : Nat) (A6 : List V) (A7 : Nat) (A8 : List V) (A9 : Int) : Option V := need (O.R 0 88 [agg [int .i64 A, int .i64 B, sl D G, sl H I, sl J K, sl L M, int .i64 N, bool P, sl Q R,
 int .i64 S], int .i64 A9]) fun a => asTup (some a) fun b => PI.asInt .i64 b[0]? fun c => bif c != 0 then some (tup [int .i64 c, int .i64 0, int .i64 0, osl 0 [], osl 0 [],
 osl 0 [], osl 0 [], int .i64 0, bool false, osl 0 [], int .i64 0]) else need (O.R 0 75 [sl U W, agg [int .i64 X, int .i64 Y, sl Z A0, sl A1 A2, sl A3 A4, sl
 A5 A6]]) fun d => asTup (some d) fun e => PI.asInt .i64 e[0]? fun f => bif f != 0 then some (tup [int .i64 f, int .i64 0, int .i64 0, osl 0 [], osl 0 [], osl 0 [], osl 0 [],
 int .i64 0, bool false, osl 0 [], int .i64 0]) else need (O.R 0 89 [agg [int .i64 A, int .i64 B, sl D G, sl H I, sl J K, sl L M, int .i64 N, bool P, sl Q
 R, int .i64 S], agg [int .i64 X, int .i64 Y, sl Z A0, sl A1 A2, sl A3 A4], bool (decide (X > i64.wrap (A + 1))), int .i64 A9]) fun g => asTup (some g)
 fun i => PI.asInt .i64 i[0]? fun j => bif j != 0 then some (tup [int .i64 j, int .i64 0, int .i64 0, osl 0 [], osl 0 [], osl 0 [], osl 0 [], int .i64 0, bool false, osl 0
 [], int .i64 0]) else need (O.R 0 78 [agg [int .i64 A, int .i64 B, sl D G, sl H I, sl J K, sl L M, int .i64 N, bool P, sl Q R, int .i64 S], sl U W,
 agg [int .i64 X, int .i64 Y, sl Z A0, sl A1 A2, sl A3 A4, sl A5 A6]]) fun l => asTup (some l) fun n => PI.asBool n[0]? fun p => bif !p then some (tup [int
 .i64 6, int .i64 0, int .i64 0, osl 0 [], osl 0 [], osl 0 [], osl 0 [], int .i64 0, bool false, osl 0 [], int .i64 0]) else need (O.R 0 91 [agg [int .i64 A, int .i64 B,
 sl D G, sl H I, sl J K, sl L M, int .i64 N, bool P, sl Q R, int .i64 S], agg [int .i64 X, int .i64 Y, sl Z A0, sl A1 A2, sl A3 A4], sl A7
 A8]) fun v => asTup (some v) fun w => PI.asInt .i64 w[0]? fun x => PI.asInt .i64 w[1]? fun y => PI.asInt .i64 w[2]? fun z => asOsl w[3]? fun a0 a1 => asOsl w[4]? fun a2 a3
 => asOsl w[5]? fun a4 a5 => asOsl w[6]? fun a6 a7 => PI.asInt .i64 w[7]? fun a8 => PI.asBool w[8]? fun a9 => asOsl w[9]? fun b0 b1 => PI.asInt .i64 w[10]? fun b2 => must (false ||
 a1.all flatV) (must (false || a3.all flatV) (must (false || a5.all flatV) (some (tup [int .i64 x, int .i64 y, int .i64 z, osl a0 a1, osl a2 a3, osl a4 a5, osl a6 a7,
 int .i64 a8, bool a9, osl b0 b1, int .i64 b2]))))
theorem E32 (A B D G H I J K L M N P Q R S U W X Y Z A0 A1 A2 A3 A4 A5 A6 A7 A8 A9) {r
 : V} (h : T32 (orcE C) A B D G H I J K L M N P Q R S U W X Y Z A0 A1 A2 A3 A4 A5 A6 A7 A8 A9 = some r) : runE C 32 [agg [int .i64 A, int .i64
 B, sl D G, sl H I, sl J K, sl L M, int .i64 N, bool P, sl Q R, int .i64 S], sl U W, agg [int .i64 X, int .i64 Y, sl Z A0, sl A1 A2, sl
 A3 A4, sl A5 A6], sl A7 A8, int .i64 A9] = some r := ofR (j := 1) (F := fun s => T32 (orc C s.k) A B D G H I J K L M N P Q R S U W X Y Z A0 A1
 A2 A3 A4 A5 A6 A7 A8 A9) (fun _ => by kernel_rfl) (by
  unfold T32
  repeat' first | (with_reducible first | intro _ | exact cC | apply cN cR | apply cT | apply cI | apply cM | apply cF | apply cB | apply cO | apply cN cC | exact cR)) h
def T99 (O : Orc) (A B : Int) (D : Nat) (G : List V) (H : Nat) (I : List V) (J : Nat) (K : List V) (L : Nat) (M : List V) (N : Int) (P : Bool) (Q : Nat) (R : List V) (S U : Int) : Option V := need (O.R 0 29 [agg [int .i64 A, int .i64 B, sl D G, sl H I, sl J K, sl L M, int .i64 N, bool P, sl
 Q R, int .i64 S]]) fun a => asTup (some a) fun b => PI.asInt .i64 b[0]? fun c => bif c != 0 then some (tup [int .i64 c]) else bif P then some (tup [int .i64 9]) else need (O.R
 0 80 [pin [int .i64 A, int .i64 B, sl D G, sl H I, sl J K, sl L M, int .i64 N, bool P, sl Q R, int .i64 S] 0, int .i64 U]) fun d => asTup (some d) fun
 e => PI.asBool e[0]? fun f => bif f then some (tup [int .i64 10]) else some (tup [int .i64 0])
theorem E99 (A B D G H I J K L M N P Q R S U) {r : V} (h : T99 (orcE C) A B D G H I J K L M N P Q R S U = some r) : runE C 99 [agg [int .i64 A, int .i64 B, sl D G, sl H I, sl J K,
 sl L M, int .i64 N, bool P, sl Q R, int .i64 S], int .i64 U] = some r := ofR (j := 1) (F := fun s => T99 (orc C s.k) A B D G H I J K L M N P Q
 R S U) (fun _ => by kernel_rfl) (by
  unfold T99
  repeat' first | (with_reducible first | intro _ | exact cC | apply cN cR | apply cT | apply cI | apply cF | apply cB | apply cN cC | exact cR)) h
def T100 (O : Orc) (A B : Int) (D : Nat) (G : List V) (H : Nat) (I : List V) (J : Nat) (K : List V) (L : Nat) (M : List V) (N : Int) (P : Bool) (Q : Nat) (R : List V) (S U W : Int) (X : Nat) (Y : List V) (Z : Nat) (A0 : List V) (A1 : Nat) (A2 : List V) (A3 : Nat) (A4 : List V) (A5 : Nat) (A6 : List V) (A7 : Int) : Option V := need (O.R 0 81 [sl L M, agg [int .i64 U, int .i64 W, sl X Y, sl Z A0, sl A1 A2, sl A3 A4]]) fun a => asTup (some a) fun b => PI.asInt
 .i64 b[0]? fun c => bif c != 0 then some (tup [int .i64 c, int .i64 0, int .i64 0, sl 0 [], sl 0 [], sl 0 [], sl 0 [], int .i64 0, bool false, sl 0 [], int .i64 0]) else
 bif U != i64.wrap (A + 1) then some (tup [int .i64 3, int .i64 0, int .i64 0, sl 0 [], sl 0 [], sl 0 [], sl 0 [], int .i64 0, bool false, sl 0 [], int .i64 0]) else
 bif decide (W ≤ B) then some (tup [int .i64 3, int .i64 0, int .i64 0, sl 0 [], sl 0 [], sl 0 [], sl 0 [], int .i64 0, bool false, sl 0 [], int .i64 0]) else bif decide (W
 > A7) then some (tup [int .i64 3, int .i64 0, int .i64 0, sl 0 [], sl 0 [], sl 0 [], sl 0 [], int .i64 0, bool false, sl 0 [], int .i64 0]) else need (O.R 0 84 [sl L M,
 agg [int .i64 U, int .i64 W, sl X Y, sl Z A0, sl A1 A2, sl A3 A4]]) fun d => asTup (some d) fun e => PI.asBool e[0]? fun f => bif !f then some (tup [int .i64 6,
 int .i64 0, int .i64 0, sl 0 [], sl 0 [], sl 0 [], sl 0 [], int .i64 0, bool false, sl 0 [], int .i64 0]) else need (O.R 0 165 [agg [int .i64 A, int .i64 B, sl D G,
 sl H I, sl J K, sl L M, int .i64 N, bool P, sl Q R, int .i64 S], agg [int .i64 U, int .i64 W, sl X Y, sl Z A0, sl A1 A2, sl A3 A4], sl A5
 A6]) fun g => asTup (some g) fun i => PI.asInt .i64 i[0]? fun j => PI.asInt .i64 i[1]? fun l => PI.asInt .i64 i[2]? fun n => asSl i[3]? fun p v => asSl i[4]? fun w x => asSl
 i[5]? fun y z => asSl i[6]? fun a0 a1 => PI.asInt .i64 i[7]? fun a2 => PI.asBool i[8]? fun a3 => asSl i[9]? fun a4 a5 => PI.asInt .i64 i[10]? fun a6 => some (tup [int .i64 j,
 int .i64 l, int .i64 n, sl p v, sl w x, sl y z, sl a0 a1, int .i64 a2, bool a3, sl a4 a5, int .i64 a6])
theorem E100 (A B D G H I J K L M N P Q R S U W X Y Z A0 A1 A2 A3 A4 A5 A6 A7) {r : V} (h : T100 (orcE C) A B D G H I J K L M N P Q R S U W X Y Z A0 A1 A2 A3 A4 A5 A6 A7 = some r) : runE C 100 [agg [int .i64 A, int .i64 B, sl D G, sl H I, sl
 J K, sl L M, int .i64 N, bool P, sl Q R, int .i64 S], agg [int .i64 U, int .i64 W, sl X Y, sl Z A0, sl A1 A2, sl A3 A4], sl A5 A6, int .i64
 A7] = some r := ofR (j := 1) (F := fun s => T100 (orc C s.k) A B D G H I J K L M N P Q R S U W X Y Z A0 A1 A2 A3 A4 A5 A6 A7) (fun _ => by
 kernel_rfl) (by
  unfold T100
  repeat' first | (with_reducible first | intro _ | exact cC | apply cN cR | apply cT | apply cI | apply cF | apply cB | apply cL | apply cN cC | exact cR)) h
def T108 (O : Orc) (A B : Int) (D : Nat) (G : List V) (H : Nat) (I : List V) (J : Nat) (K : List V) (L : Nat) (M : List V) (N : Int) (P : Bool) (Q : Nat) (R : List V) (S : Int) (U : Nat) (W : List V) (X Y : Int) (Z : Nat) (A0 : List V) (A1 : Nat) (A2 : List V) (A3 : Nat) (A4 : List V) (A5 : Nat) (A6 : List V) (A7 : Nat) (A8 : List V) (A9 : Int) : Option V := need (O.R 0 81 [sl U W, agg [int .i64 X, int .i64 Y, sl Z A0, sl A1 A2, sl A3 A4, sl A5 A6]]) fun a => asTup
 (some a) fun b => PI.asInt .i64 b[0]? fun c => bif c != 0 then some (tup [int .i64 c, int .i64 0, int .i64 0, sl 0 [], sl 0 [], sl 0 [], sl 0 [], int .i64 0, bool false, sl
 0 [], int .i64 0]) else bif decide (X ≤ i64.wrap (A + 1)) then some (tup [int .i64 3, int .i64 0, int .i64 0, sl 0 [], sl 0 [], sl 0 [], sl 0 [], int .i64 0, bool
 false, sl 0 [], int .i64 0]) else bif decide (Y ≤ B) then some (tup [int .i64 3, int .i64 0, int .i64 0, sl 0 [], sl 0 [], sl 0 [], sl 0 [], int .i64 0, bool false, sl 0
 [], int .i64 0]) else bif decide (Y > A9) then some (tup [int .i64 3, int .i64 0, int .i64 0, sl 0 [], sl 0 [], sl 0 [], sl 0 [], int .i64 0, bool false, sl 0 [], int .i64
 0]) else need (O.R 0 84 [sl U W, agg [int .i64 X, int .i64 Y, sl Z A0, sl A1 A2, sl A3 A4, sl A5 A6]]) fun d => asTup (some d) fun e => PI.asBool e[0]? fun f =>
 bif !f then some (tup [int .i64 6, int .i64 0, int .i64 0, sl 0 [], sl 0 [], sl 0 [], sl 0 [], int .i64 0, bool false, sl 0 [], int .i64 0]) else need (O.R 0 85 [pin [int
 .i64 A, int .i64 B, sl D G, sl H I, sl J K, sl L M, int .i64 N, bool P, sl Q R, int .i64 S] 0, sl U W, agg [int .i64 X, int .i64 Y, sl Z A0,
 sl A1 A2, sl A3 A4, sl A5 A6]]) fun g => asTup (some g) fun i => PI.asBool i[0]? fun j => bif !j then some (tup [int .i64 6, int .i64 0, int .i64 0, sl 0 [], sl 0 [],
 sl 0 [], sl 0 [], int .i64 0, bool false, sl 0 [], int .i64 0]) else need (O.R 0 165 [agg [int .i64 A, int .i64 B, sl D G, sl H I, sl J K, sl L M, int .i64 N,
 bool P, sl Q R, int .i64 S], agg [int .i64 X, int .i64 Y, sl Z A0, sl A1 A2, sl A3 A4, sl A5 A6], sl A7 A8]) fun l => asTup (some l) fun n =>
 PI.asInt .i64 n[0]? fun p => PI.asInt .i64 n[1]? fun v => PI.asInt .i64 n[2]? fun w => asSl n[3]? fun x y => asSl n[4]? fun z a0 => asSl n[5]? fun a1 a2 => asSl n[6]? fun
 a3 a4 => PI.asInt .i64 n[7]? fun a5 => PI.asBool n[8]? fun a6 => asSl n[9]? fun a7 a8 => PI.asInt .i64 n[10]? fun a9 => some (tup [int .i64 p, int .i64 v, int .i64 w, sl
 x y, sl z a0, sl a1 a2, sl a3 a4, int .i64 a5, bool a6, sl a7 a8, int .i64 a9])
theorem E108 (A B D G H I J K L M N P Q R S U W X Y Z A0 A1 A2 A3 A4 A5 A6 A7 A8 A9) {r
 : V} (h : T108 (orcE C) A B D G H I J K L M N P Q R S U W X Y Z A0 A1 A2 A3 A4 A5 A6 A7 A8 A9 = some r) : runE C 108 [agg [int .i64 A, int .i64
 B, sl D G, sl H I, sl J K, sl L M, int .i64 N, bool P, sl Q R, int .i64 S], sl U W, agg [int .i64 X, int .i64 Y, sl Z A0, sl A1 A2, sl
 A3 A4, sl A5 A6], sl A7 A8, int .i64 A9] = some r := ofR (j := 1) (F := fun s => T108 (orc C s.k) A B D G H I J K L M N P Q R S U W X Y Z A0
 A1 A2 A3 A4 A5 A6 A7 A8 A9) (fun _ => by kernel_rfl) (by
  unfold T108
  repeat' first | (with_reducible first | intro _ | exact cC | apply cN cR | apply cT | apply cI | apply cF | apply cB | apply cL | apply cN cC | exact cR)) h
def T109 (O : Orc) (A B : Int) (D : Nat) (G : List V) (H : Nat) (I : List V) (J : Nat) (K : List V) (L : Nat) (M : List V) (N : Int) (P : Bool) (Q : Nat) (R : List V) (S U : Int) : Option V := need (O.R 0 51 [int .i64 U, int .i64 S, int .i64 A]) fun a => asTup (some a) fun b => PI.asBool b[0]? fun c => bif !c
 then some (tup [sl 0 [], bool false]) else must (inB (i64.wrap (U - S)) Q) (must (decide ((i64.wrap (U - S)).toNat * 1 < R.length)) (asSl R[(i64.wrap (U -
 S)).toNat * 1]? fun d e => asSl R[(i64.wrap (U - S)).toNat * 1]? fun f g => some (tup [sl f g, bool (decide ((↑d : Int) > 0))])))
theorem E109 (A B D G H I J K L M N P Q R S U) {r : V} (h : T109 (orcE C) A B D G H I J K L M N P Q R S U = some r) : runE C 109 [agg [int .i64 A, int .i64 B, sl D G, sl H I, sl J K,
 sl L M, int .i64 N, bool P, sl Q R, int .i64 S], int .i64 U] = some r := ofR (j := 1) (F := fun s => T109 (orc C s.k) A B D G H I J K L M N P Q
 R S U) (fun _ => by kernel_rfl) (by
  unfold T109
  repeat' first | (with_reducible first | intro _ | exact cC | apply cN cR | apply cT | apply cM | apply cF | apply cB | apply cL | apply cN cC | exact cR)) h
def T110 (O : Orc) (A : Nat) (B : List V) : Option V := bif A.beq (OfNat.ofNat 0) then both (some (tup [osl 0 []])) (must (decide (B.length = A * 1)) (must
 (true && (0 + A).ble 140737488355328 && ((0 + A) * 1).ble 140737488355328) (must (false || B.all flatV) (some (tup [osl (0 + A) B]))))) else must (decide (B.length = A * 1)) (must (true &&
 (0 + A).ble 140737488355328 && ((0 + A) * 1).ble 140737488355328) (must (false || B.all flatV) (some (tup [osl (0 + A) B]))))
theorem E110 (A B) {r : V} (h : T110 (orcE C) A B = some r) : runE C 110 [sl A B] = some r := ofR (j := 1) (F := fun s => T110 (orc C s.k) A B) (fun _ =>
 by kernel_rfl) (by
  unfold T110
  repeat' first | (with_reducible first | intro _ | exact cC | apply cM | apply cF | apply cW)) h
def T75 (O : Orc) (k : Nat) (A : Nat) (B : List V) (D G : Int) (H : Nat) (I : List V) (J : Nat) (K : List V) (L : Nat) (M : List V) (N : Nat) (P : List V) :
 Option V := need (O.R 0 102 [sl A B]) fun a => asTup (some a) fun b => PI.asInt .i64 b[0]? fun c => bif c != 0 then some (tup [int .i64 c]) else need (O.R 0 101 [agg [int .i64 D,
 int .i64 G, sl H I, sl J K, sl L M]]) fun d => asTup (some d) fun e => PI.asInt .i64 e[0]? fun f => bif f != 0 then some (tup [int .i64 f]) else need (O.R 0 103 [sl A
 B]) fun g => asTup (some g) fun i => asSl i[0]? fun j l => need (O.R 0 76 [sl J K, sl j l]) fun n => asTup (some n) fun p => PI.asBool p[0]? fun v => bif !v then some
 (tup [int .i64 1]) else bif decide ((↑N : Int) > 5) then some (tup [int .i64 2]) else need (O.R 0 77 [agg [int .i64 D, int .i64 G, sl H I, sl J K, sl L M]]) fun w =>
 asTup (some w) fun x => asSl x[0]? fun y z => O.L 0 75 1 [true, true, true, true, true, false, true] [] k [(0, sl A B), (7, int .i64 (-1)), (8, sl y z), (39, sl N P), (40,
 int .i64 (↑N : Int)), (41, int .i64 0)] []
theorem E75 (A B D G H I J K L M N P) {r : V} (h : T75 (orcE C) 0 A B
 D G H I J K L M N P = some r) : runE C 75 [sl A B, agg [int .i64 D, int .i64 G, sl H I, sl J K, sl L M, sl N P]] = some r := ofR (j := 1) (F := fun s => T75 (orc C s.k) s.k A B D G H I J K L M N P) (fun _ => by kernel_rfl) (by
  unfold T75
  repeat' first | (with_reducible first | intro _ | exact cC | apply cN cR | apply cT | apply cI | apply cF | apply cB | apply cL | apply cN cC | exact cR) | exact cD0 gK) h
def T90 (O : Orc) (A : Nat) (B : List V) (D G : Int) (H : Nat) (I : List V) (J : Nat) (K : List V) (L : Nat) (M : List V) (N : Nat) (P : List V) :
 Option V := need (O.R 0 160 [sl A B, agg [int .i64 D, int .i64 G, sl H I, sl J K, sl L M, sl N P]]) fun a => asTup (some a) fun b => PI.asInt .i64 b[0]? fun c =>
 need (O.R 0 149 [sl A B]) fun d => asTup (some d) fun e => PI.asInt .i64 e[0]? fun f => some (tup [bool (decide (i64.wrap (3 * c) > i64.wrap (2 * f)))])
theorem E90 (A B D G H I J K L M N P) {r : V} (h : T90 (orcE C) A B
 D G H I J K L M N P = some r) : runE C 90 [sl A B, agg [int .i64 D, int .i64 G, sl H I, sl J K, sl L M, sl N P]] = some r := ofR (j := 1) (F := fun s => T90 (orc C s.k) A B D G H I J K L M N P) (fun _ => by kernel_rfl) (by
  unfold T90
  repeat' first | (with_reducible first | intro _ | exact cC | apply cN cR | apply cT | apply cI | apply cN cC | exact cR)) h
def T101 (O : Orc) (A B : Int) (D : Nat) (G : List V) (H : Nat) (I : List V) (J : Nat) (K : List V) : Option V := need (O.R 0 128 [sl 3 [sl D G,
 sl H I, sl J K]]) fun a => asTup (some a) fun b => PI.asBool b[0]? fun c => bif !c then some (tup [int .i64 1]) else need (O.R 0 51 [int .i64 A, int .i64 1, int .i64 1000000])
 fun d => asTup (some d) fun e => PI.asBool e[0]? fun f => bif !f then some (tup [int .i64 3]) else need (O.R 0 51 [int .i64 B, int .i64 0, int .i64 1099511627776]) fun g => asTup
 (some g) fun i => PI.asBool i[0]? fun j => bif !j then some (tup [int .i64 3]) else some (tup [int .i64 0])
theorem E101 (A B D G H I J K) {r : V} (h : T101 (orcE C) A B D G H I J K = some r) : runE C 101 [agg
 [int .i64 A, int .i64 B, sl D G, sl H I, sl J K]] = some r := ofR (j := 1) (F := fun s => T101 (orc C s.k) A B D G H I J K) (fun _ => by kernel_rfl) (by
  unfold T101
  repeat' first | (with_reducible first | intro _ | exact cC | apply cN cR | apply cT | apply cF | apply cB | apply cN cC | exact cR)) h
def T102 (O : Orc) (k : Nat) (A : Nat) (B : List V) : Option V := bif (↑A : Int) == 0 then some (tup [int .i64 4]) else bif decide ((↑A : Int) > 5) then some (tup [int
 .i64 2]) else O.L 0 102 1 [true, true, false, true] [] k [(0, sl A B), (13, sl A B), (14, int .i64 (↑A : Int)), (15, int .i64 0)] []
theorem E102 (A B) {r : V} (h : T102 (orcE C) 0 A B = some r) : runE C 102 [sl A B] = some r := ofR (j := 1) (F := fun s => T102 (orc C s.k) s.k A B) (fun _ =>
 by kernel_rfl) (by
  unfold T102
  repeat' first | (with_reducible first | intro _ | exact cC | apply cF) | exact cD0 gK) h
def T103 (O : Orc) (k : Nat) (A : Nat) (B : List V) : Option V := O.L 0 103 0 [true, true, false, true] [] k [(3, ref 0), (7, sl A B), (8, int .i64 (↑A : Int)), (9,
 int .i64 0)] [Ob.row 22 0 [] false]
theorem E103 (A B) {r : V} (h : T103 (orcE C) 0 A B = some r) : runE C 103 [sl A B] = some r := ofR (j := 1) (F := fun s => T103 (orc C s.k) s.k A B) (fun _ =>
 by kernel_rfl) (by
  unfold T103
  repeat' first | with_reducible exact cC | exact cD0 gK) h
def T76 (O : Orc) (A : Nat) (B : List V) (D : Nat) (G : List V) : Option V := must (B.length.beq A && B.all isU8) (must (G.length.beq D && G.all isU8) (some
 (tup [bool (strEq (packB B) (packB G))])))
theorem E76 (A B D G) {r : V} (h : T76 (orcE C) A B D G = some r) : runE C 76 [sl A B, sl D G] = some r := ofR (j := 1) (F := fun s => T76 (orc C s.k) A B D G) (fun _ => by kernel_rfl) (by
  unfold T76
  repeat' first | (with_reducible first | intro _ | exact cC | apply cM)) h
def T51 (O : Orc) (A B D : Int) : Option V := bif decide (B ≤ A) then some (tup [bool (decide (A ≤ D))]) else some (tup [bool false])
theorem E51 (A B D) {r : V} (h : T51 (orcE C) A B D = some r) : runE C 51 [int .i64 A, int .i64 B, int .i64 D] = some r := ofR (j := 1) (F := fun s => T51 (orc C s.k) A B D) (fun _ => by kernel_rfl) (by
  unfold T51
  repeat' first | (with_reducible first | intro _ | exact cC | apply cF)) h
def T104 (O : Orc) (A : Nat) (B : List V) : Option V := need (O.R 0 167 [sl A B, fn 105 []]) fun a => asTup (some a) fun b => PI.asInt .i64 b[0]? fun c =>
 some (tup [bool (decide (c ≥ 0))])
theorem E104 (A B) {r : V} (h : T104 (orcE C) A B = some r) : runE C 104 [sl A B, fn 105 []] = some r := ofR (j := 1) (F := fun s => T104 (orc C s.k) A
 B) (fun _ => by kernel_rfl) (by
  unfold T104
  repeat' first | (with_reducible first | intro _ | exact cC | apply cN cR | apply cT | apply cI | apply cN cC | exact cR)) h
def T66 (O : Orc) (k : Nat) (A : Nat) (B : List V) (D : Int) : Option V := need (O.W 0 41 [] [ptr 0 0, int .i64 3] [Ob.box 142 [sl A B, int .i64 D] false]) fun a =>
 asTup (some a) fun b => PI.asInt .i64 b[0]? fun c => asSl b[1]? fun d e => PI.asInt .i64 b[2]? fun f => need (O.W 0 67 [] [ptr 0 0, int .i64 (i64.wrap (1 + c)), int .i64 0]
 [Ob.box 142 [sl d e, int .i64 f] false]) fun g => asTup (some g) fun i => asSl i[0]? fun j l => asSl i[1]? fun n p => asSl i[2]? fun v w => PI.asInt .i64 i[3]? fun x => need
 (O.W 0 41 [] [ptr 0 0, int .i64 4] [Ob.box 142 [sl v w, int .i64 x] false]) fun y => asTup (some y) fun z => PI.asInt .i64 z[0]? fun a0 => asSl z[1]? fun a1 a2 => PI.asInt
 .i64 z[2]? fun a3 => O.X 0 66 [] [Ob.box 142 [V.u, V.u] false] 0 [true, true, true, true, false, true] [] k [(0, ptr 0 0), (2, ptr 1 0), (4, sl j l), (5, sl n p), (6, ref 9), (7,
 int .i64 a0)] [Ob.box 142 [sl a1 a2, int .i64 a3] false, Ob.box 106 [int .i64 0, int .i64 0, ref 2, ref 3, ref 4, ref 5, int .i64 0, bool false, ref 6, int .i64 0, ref
 7, ref 8] false, Ob.row 5 0 [] false, Ob.row 5 0 [] false, Ob.row 5 0 [] false, Ob.row 161 0 [] false, Ob.nrow [] 22 0 [], Ob.nrow [] 22 0 [], Ob.nrow [] 22 0 [], Ob.row 22 0 [] false]
theorem E66 (A B D) {r : V} (h : T66 (orcE C) 0 A B D = some r) : runWE C 66 [] [ptr 0 0] [Ob.box 142 [sl A B, int .i64 D] false] = some r := ofW (j := 1)
 (F := fun s => T66 (orc C s.k) s.k A B D) (fun _ => by kernel_rfl) (by
  unfold T66
  repeat' first | (with_reducible first | intro _ | exact cC | apply cN cQ | apply cT | apply cI | apply cL | apply cN cC | exact cQ) | exact cX0 gK) h
def T40 (O : Orc) (A : Int) (B : Nat) (D : List V) (G : Int) : Option V := need (O.W 0 41 [] [ptr 0 0, int .i64 A] [Ob.box 142 [sl B D, int .i64 G]
 false]) fun a => asTup (some a) fun b => PI.asInt .i64 b[0]? fun c => asSl b[1]? fun d e => PI.asInt .i64 b[2]? fun f => some (tup [bool (c == 0), sl d e, int .i64 f])
theorem E40 (A B D G) {r : V} (h : T40 (orcE C) A B D G = some r) : runWE C 40 [] [ptr 0 0, int .i64 A] [Ob.box 142 [sl B D, int .i64 G]
 false] = some r := ofW (j := 1) (F := fun s => T40 (orc C s.k) A B D G) (fun _ => by kernel_rfl) (by
  unfold T40
  repeat' first | (with_reducible first | intro _ | exact cC | apply cN cQ | apply cT | apply cI | apply cL | apply cN cC | exact cQ)) h
def T41 (O : Orc) (A : Int) (B : Nat) (D : List V) (G : Int) : Option V := bif decide (A < 1) then some (tup [int .i64 0, sl B D, int .i64
 (i64.wrap (G + 1))]) else bif (↑B : Int) == 0 then must (!decide (A = 0)) (some (tup [int .i64 ((i64.wrap (i64.wrap (i64.wrap (G + 1) - 1) * 7)).tmod A), sl
 B D, int .i64 (i64.wrap (G + 1))])) else must (!decide ((↑B : Int) = 0)) (must (inB ((i64.wrap (i64.wrap (G + 1) - 1)).tmod (↑B : Int)) B) (PI.asInt .u8
 D[((i64.wrap (i64.wrap (G + 1) - 1)).tmod (↑B : Int)).toNat * 1]? fun a => must (!decide ((↑B : Int) = 0)) (bif decide (A > 200) then must (!decide ((↑B : Int) = 0)) (must (inB
 ((i64.wrap (i64.wrap (i64.wrap (G + 1) - 1) + 1)).tmod (↑B : Int)) B) (PI.asInt .u8 D[((i64.wrap (i64.wrap (i64.wrap (G + 1) - 1) + 1)).tmod (↑B :
 Int)).toNat * 1]? fun b => must (!decide (A = 0)) (some (tup [int .i64 ((i64.wrap (i64.wrap (i64.wrap (i64.wrap (i64.wrap a + i64.wrap
 (i64.wrap ((i64.wrap (i64.wrap (G + 1) - 1)).tdiv (↑B : Int)) * 37)) * 251) + i64.wrap (i64.wrap b * 13)) + i64.wrap (i64.wrap (G + 1) -
 1))).tmod A), sl B D, int .i64 (i64.wrap (G + 1))])))) else must (!decide (A = 0)) (some (tup [int .i64 ((i64.wrap (i64.wrap a + i64.wrap
 (i64.wrap ((i64.wrap (i64.wrap (G + 1) - 1)).tdiv (↑B : Int)) * 37))).tmod A), sl B D, int .i64 (i64.wrap (G + 1))])))))
theorem E41 (A B D G) {r : V} (h : T41 (orcE C) A B D G = some r) : runWE C 41 [] [ptr 0 0, int .i64 A] [Ob.box 142 [sl B D, int .i64 G]
 false] = some r := ofW (j := 1) (F := fun s => T41 (orc C s.k) A B D G) (fun _ => by kernel_rfl) (by
  unfold T41
  repeat' first | (with_reducible first | intro _ | exact cC | apply cI | apply cM | apply cF)) h
def T67 (O : Orc) (k : Nat) (A B : Int) (D : Nat) (G : List V) (H : Int) : Option V := O.X 0 67 [] [Ob.box 142 [V.u, V.u] false] 0 [true, true, true, false, true] []
 k [(0, ptr 0 0), (1, int .i64 A), (2, int .i64 B), (8, ref 1), (9, ref 2), (10, int .i64 0)] [Ob.box 142 [sl D G, int .i64 H] false, Ob.row 22 0 [] false, Ob.row 161 0 [] false]
theorem E67 (A B D G H) {r : V} (h : T67 (orcE C) 0 A B D G H = some r) : runWE C 67 [] [ptr 0 0, int .i64 A, int .i64 B] [Ob.box 142
 [sl D G, int .i64 H] false] = some r := ofW (j := 1) (F := fun s => T67 (orc C s.k) s.k A B D G H) (fun _ => by kernel_rfl) (by
  unfold T67
  repeat' first | with_reducible exact cC | exact cX0 gK) h
def T94 (O : Orc) (A : Nat) (B : List V) (D : Nat) (G : List V) (H : Int) : Option V := need (O.W 0 41 [] [ptr 0 0, int .i64 (↑A : Int)] [Ob.box 142 [sl D
 G, int .i64 H] false]) fun a => asTup (some a) fun b => PI.asInt .i64 b[0]? fun c => asSl b[1]? fun d e => PI.asInt .i64 b[2]? fun f => must (inB c A) (PI.asInt .i64 B[c.toNat * 1]?
 fun g => some (tup [int .i64 g, sl d e, int .i64 f]))
theorem E94 (A B D G H) {r : V} (h : T94 (orcE C) A B D G H = some r) : runWE C 94 [] [ptr 0 0, sl A B] [Ob.box 142 [sl D G,
 int .i64 H] false] = some r := ofW (j := 1) (F := fun s => T94 (orc C s.k) A B D G H) (fun _ => by kernel_rfl) (by
  unfold T94
  repeat' first | (with_reducible first | intro _ | exact cC | apply cN cQ | apply cT | apply cI | apply cM | apply cL | apply cN cC | exact cQ)) h
def T93 (O : Orc) (A B : Int) (D : Nat) (G : List V) (H : Nat) (I : List V) (J : Nat) (K : List V) (L : Nat) (M : List V) (N : Int) (P : Bool) (Q : Nat) (R : List V) (S : Int) (U : Nat) (W : List V) (X : Nat) (Y : List V) (Z : Int) (A0 : Nat) (A1 : List V) (A2 : Nat) (A3 : List V) (A4 : Nat) (A5 : List V) (A6 : Int) :
 Option V := need (O.W 0 40 [] [ptr 0 0, int .i64 4] [Ob.box 142 [sl A4 A5, int .i64 A6] false]) fun a => asTup (some a) fun b => PI.asBool b[0]? fun c => asSl b[1]? fun d e =>
 PI.asInt .i64 b[2]? fun f => bif c then need (O.W 0 41 [] [ptr 0 0, int .i64 3] [Ob.box 142 [sl d e, int .i64 f] false]) fun g => asTup (some g) fun i => PI.asInt .i64 i[0]? fun j
 => asSl i[1]? fun l n => PI.asInt .i64 i[2]? fun p => need (O.W 0 67 [] [ptr 0 0, int .i64 (i64.wrap (1 + j)), int .i64 1] [Ob.box 142 [sl l n, int .i64 p] false]) fun
 v => asTup (some v) fun w => asSl w[0]? fun x y => asSl w[1]? fun z a0 => asSl w[2]? fun a1 a2 => PI.asInt .i64 w[3]? fun a3 => need (O.W 0 41 [] [ptr 0 0, int .i64 30]
 [Ob.box 142 [sl a1 a2, int .i64 a3] false]) fun a4 => asTup (some a4) fun a5 => PI.asInt .i64 a5[0]? fun a6 => asSl a5[1]? fun a7 a8 => PI.asInt .i64 a5[2]? fun a9 => need (O.W 0 94
 [] [ptr 0 0, sl 4 [int .i64 1, int .i64 3, int .i64 0, int .i64 a6]] [Ob.box 142 [sl a7 a8, int .i64 a9] false]) fun b0 => asTup (some b0) fun b1 => PI.asInt .i64 b1[0]? fun
 b2 => asSl b1[1]? fun b3 b4 => PI.asInt .i64 b1[2]? fun b5 => need (O.R 0 68 [sl 0 []]) fun b6 => asTup (some b6) fun b7 => asOsl b7[0]? fun b8 b9 => need (O.R 0 69 [sl A0 A1]) fun
 c0 => asTup (some c0) fun c1 => asSl c1[0]? fun c2 c3 => need (O.R 0 69 [sl z a0]) fun c4 => asTup (some c4) fun c5 => asSl c5[0]? fun c6 c7 => need (O.W 0 72 [] [ptr 0 0, int
 .i64 (↑A2 : Int)] [Ob.box 142 [sl b3 b4, int .i64 b5] false]) fun c8 => asTup (some c8) fun c9 => asSl c9[0]? fun d0 d1 => asSl c9[1]? fun d2 d3 => PI.asInt .i64 c9[2]? fun d4 =>
 need (O.W 0 41 [] [ptr 0 0, int .i64 4] [Ob.box 142 [sl d2 d3, int .i64 d4] false]) fun d5 => asTup (some d5) fun d6 => PI.asInt .i64 d6[0]? fun d7 => asSl d6[1]? fun d8 d9 =>
 PI.asInt .i64 d6[2]? fun e0 => need (O.R 0 71 [sl A2 A3, sl d0 d1, int .i64 d7, agg [int .i64 Z, int .i64 (i64.wrap (B + b2)), sl b8 b9, sl c2 c3, sl c6
 c7]]) fun e1 => asTup (some e1) fun e2 => PI.asInt .i64 e2[0]? fun e3 => PI.asInt .i64 e2[1]? fun e4 => asSl e2[2]? fun e5 e6 => asSl e2[3]? fun e7 e8 => asSl e2[4]? fun e9 f0 => asSl
 e2[5]? fun f1 f2 => need (O.W 0 40 [] [ptr 0 0, int .i64 12] [Ob.box 142 [sl d8 d9, int .i64 e0] false]) fun f3 => asTup (some f3) fun f4 => PI.asBool f4[0]? fun f5 => asSl f4[1]?
 fun f6 f7 => PI.asInt .i64 f4[2]? fun f8 => bif f5 then need (O.W 0 40 [] [ptr 0 0, int .i64 14] [Ob.box 142 [sl f6 f7, int .i64 f8] false]) fun f9 => asTup (some f9) fun g0 =>
 PI.asBool g0[0]? fun g1 => asSl g0[1]? fun g2 g3 => PI.asInt .i64 g0[2]? fun g4 => bif g1 then need (O.W 0 163 [] [ptr 0 0, sl z a0] [Ob.box 142 [sl g2 g3, int .i64 g4] false])
 fun g5 => asTup (some g5) fun g6 => asSl g6[0]? fun g7 g8 => asSl g6[1]? fun g9 h0 => PI.asInt .i64 g6[2]? fun h1 => some (tup [int .i64 e3, int .i64 (i64.wrap (e4 + 1)),
 sl e5 e6, sl e7 e8, sl e9 f0, sl f1 f2, sl g7 g8, sl g9 h0, int .i64 h1]) else some (tup [int .i64 e3, int .i64 (i64.wrap (e4 + 1)), sl e5 e6, sl e7
 e8, sl e9 f0, sl f1 f2, sl z a0, sl g2 g3, int .i64 g4]) else need (O.W 0 40 [] [ptr 0 0, int .i64 14] [Ob.box 142 [sl f6 f7, int .i64 f8] false]) fun h2 => asTup
 (some h2) fun h3 => PI.asBool h3[0]? fun h4 => asSl h3[1]? fun h5 h6 => PI.asInt .i64 h3[2]? fun h7 => bif h4 then need (O.W 0 163 [] [ptr 0 0, sl z a0] [Ob.box 142 [sl h5 h6,
 int .i64 h7] false]) fun h8 => asTup (some h8) fun h9 => asSl h9[0]? fun i0 i1 => asSl h9[1]? fun i2 i3 => PI.asInt .i64 h9[2]? fun i4 => some (tup [int .i64 e3, int .i64 e4,
 sl e5 e6, sl e7 e8, sl e9 f0, sl f1 f2, sl i0 i1, sl i2 i3, int .i64 i4]) else some (tup [int .i64 e3, int .i64 e4, sl e5 e6, sl e7 e8, sl e9 f0, sl
 f1 f2, sl z a0, sl h5 h6, int .i64 h7]) else need (O.W 0 41 [] [ptr 0 0, int .i64 30] [Ob.box 142 [sl d e, int .i64 f] false]) fun i5 => asTup (some i5) fun i6 =>
 PI.asInt .i64 i6[0]? fun i7 => asSl i6[1]? fun i9 j0 => PI.asInt .i64 i6[2]? fun j1 => need (O.W 0 94 [] [ptr 0 0, sl 4 [int .i64 1, int .i64 3, int .i64 0, int .i64 i7]]
 [Ob.box 142 [sl i9 j0, int .i64 j1] false]) fun j2 => asTup (some j2) fun j3 => PI.asInt .i64 j3[0]? fun j4 => asSl j3[1]? fun j5 j6 => PI.asInt .i64 j3[2]? fun j7 =>
 need (O.R 0 68 [sl 0 []]) fun j8 => asTup (some j8) fun j9 => asOsl j9[0]? fun l0 l1 => need (O.R 0 69 [sl A0 A1]) fun l2 => asTup (some l2) fun l3 => asSl l3[0]? fun l4
 l5 => need (O.R 0 69 [sl A0 A1]) fun l6 => asTup (some l6) fun l7 => asSl l7[0]? fun l8 l9 => need (O.W 0 72 [] [ptr 0 0, int .i64 (↑A2 : Int)] [Ob.box 142 [sl j5 j6,
 int .i64 j7] false]) fun n0 => asTup (some n0) fun n1 => asSl n1[0]? fun n2 n3 => asSl n1[1]? fun n4 n5 => PI.asInt .i64 n1[2]? fun n6 => need (O.W 0 41 [] [ptr 0 0, int
 .i64 4] [Ob.box 142 [sl n4 n5, int .i64 n6] false]) fun n7 => asTup (some n7) fun n8 => PI.asInt .i64 n8[0]? fun n9 => asSl n8[1]? fun p0 p1 => PI.asInt .i64 n8[2]? fun
 p2 => need (O.R 0 71 [sl A2 A3, sl n2 n3, int .i64 n9, agg [int .i64 Z, int .i64 (i64.wrap (B + j4)), sl l0 l1, sl l4 l5, sl l8 l9]]) fun p3 =>
 asTup (some p3) fun p4 => PI.asInt .i64 p4[0]? fun p5 => PI.asInt .i64 p4[1]? fun p6 => asSl p4[2]? fun p7 p8 => asSl p4[3]? fun p9 v0 => asSl p4[4]? fun v1 v2 => asSl
 p4[5]? fun v3 v4 => need (O.W 0 40 [] [ptr 0 0, int .i64 12] [Ob.box 142 [sl p0 p1, int .i64 p2] false]) fun v5 => asTup (some v5) fun v6 => PI.asBool v6[0]? fun v7 =>
 asSl v6[1]? fun v8 v9 => PI.asInt .i64 v6[2]? fun w0 => bif v7 then need (O.W 0 40 [] [ptr 0 0, int .i64 14] [Ob.box 142 [sl v8 v9, int .i64 w0] false]) fun w1 => asTup
 (some w1) fun w2 => PI.asBool w2[0]? fun w3 => asSl w2[1]? fun w4 w5 => PI.asInt .i64 w2[2]? fun w6 => bif w3 then need (O.W 0 163 [] [ptr 0 0, sl A0 A1] [Ob.box 142 [sl
 w4 w5, int .i64 w6] false]) fun w7 => asTup (some w7) fun w8 => asSl w8[0]? fun w9 x0 => asSl w8[1]? fun x1 x2 => PI.asInt .i64 w8[2]? fun x3 => some (tup [int .i64
 p5, int .i64 (i64.wrap (p6 + 1)), sl p7 p8, sl p9 v0, sl v1 v2, sl v3 v4, sl w9 x0, sl x1 x2, int .i64 x3]) else some (tup [int .i64 p5,
 int .i64 (i64.wrap (p6 + 1)), sl p7 p8, sl p9 v0, sl v1 v2, sl v3 v4, sl A0 A1, sl w4 w5, int .i64 w6]) else need (O.W 0 40 [] [ptr 0 0, int .i64
 14] [Ob.box 142 [sl v8 v9, int .i64 w0] false]) fun x4 => asTup (some x4) fun x5 => PI.asBool x5[0]? fun x6 => asSl x5[1]? fun x7 x8 => PI.asInt .i64 x5[2]? fun x9 => bif
 x6 then need (O.W 0 163 [] [ptr 0 0, sl A0 A1] [Ob.box 142 [sl x7 x8, int .i64 x9] false]) fun y0 => asTup (some y0) fun y1 => asSl y1[0]? fun y2 y3 => asSl y1[1]? fun
 y4 y5 => PI.asInt .i64 y1[2]? fun y6 => some (tup [int .i64 p5, int .i64 p6, sl p7 p8, sl p9 v0, sl v1 v2, sl v3 v4, sl y2 y3, sl y4 y5, int
 .i64 y6]) else some (tup [int .i64 p5, int .i64 p6, sl p7 p8, sl p9 v0, sl v1 v2, sl v3 v4, sl A0 A1, sl x7 x8, int .i64 x9])
theorem E93 (A B D G H I J K L M N P Q R S U W X Y Z A0 A1 A2 A3 A4 A5 A6) {r : V} (h : T93 (orcE C) A B
 D G H I J K L M N P Q R S U W X Y Z A0 A1 A2 A3 A4 A5 A6 = some r) : runWE C 93 [] [ptr 0 0, agg [int .i64 A, int .i64 B, sl D G, sl H I, sl J
 K, sl L M, int .i64 N, bool P, sl Q R, int .i64 S, sl U W, sl X Y], int .i64 Z, sl A0 A1, sl A2 A3] [Ob.box 142 [sl A4 A5, int .i64 A6] false] =
 some r := ofW (j := 1) (F := fun s => T93 (orc C s.k) A B D G H I J K L M N P Q R S U W X Y Z A0 A1 A2 A3 A4 A5 A6) (fun _ => by kernel_rfl) (by
  unfold T93
  repeat' first | (with_reducible first | intro _ | exact cC | apply cN cR | apply cN cQ | apply cT | apply cI | apply cF | apply cB | apply cL | apply cO | apply cN cC | exact cR | exact cQ)) h
def T95 (O : Orc) (A B : Int) (D : Nat) (G : List V) (H : Nat) (I : List V) (J : Nat) (K : List V) (L : Nat) (M : List V) (N : Int) (P : Bool) (Q : Nat) (R : List V) (S : Int) (U : Nat) (W : List V) (X : Int) : Option V := need (O.R 0 86 [agg [int .i64 A, int .i64 B, sl D G, sl H I, sl J K, sl L M, int
 .i64 N, bool P, sl Q R, int .i64 S]]) fun a => asTup (some a) fun b => PI.asInt .i64 b[0]? fun c => PI.asInt .i64 b[1]? fun d => asOsl b[2]? fun e f => asOsl b[3]? fun g i
 => asOsl b[4]? fun j l => asOsl b[5]? fun n p => PI.asInt .i64 b[6]? fun v => PI.asBool b[7]? fun w => asOsl b[8]? fun x y => PI.asInt .i64 b[9]? fun z => need (O.W 0 41 []
 [ptr 0 0, int .i64 9] [Ob.box 142 [sl U W, int .i64 X] false]) fun a0 => asTup (some a0) fun a1 => PI.asInt .i64 a1[0]? fun a2 => asSl a1[1]? fun a3 a4 => PI.asInt .i64 a1[2]?
 fun a5 => bif a2 == 0 then need (O.W 0 164 [] [ptr 0 0, agg [int .i64 c, int .i64 d, sl e f, sl g i, sl j l]] [Ob.box 142 [sl a3 a4, int .i64 a5] false]) fun a6 =>
 asTup (some a6) fun a7 => PI.asInt .i64 a7[0]? fun a8 => PI.asInt .i64 a7[1]? fun a9 => asSl a7[2]? fun b0 b1 => asSl a7[3]? fun b2 b3 => asSl a7[4]? fun b4 b5 => asSl a7[5]? fun b6
 b7 => PI.asInt .i64 a7[6]? fun b8 => some (tup [int .i64 a8, int .i64 a9, sl b0 b1, sl b2 b3, sl b4 b5, sl n p, int .i64 v, bool w, sl x y, int .i64 z,
 sl b6 b7, int .i64 b8]) else bif a2 == 1 then need (O.W 0 163 [] [ptr 0 0, sl n p] [Ob.box 142 [sl a3 a4, int .i64 a5] false]) fun b9 => asTup (some b9) fun c0 => asSl
 c0[0]? fun c1 c2 => asSl c0[1]? fun c3 c4 => PI.asInt .i64 c0[2]? fun c5 => some (tup [int .i64 c, int .i64 d, sl e f, sl g i, sl j l, sl c1 c2, int .i64 v, bool
 w, sl x y, int .i64 z, sl c3 c4, int .i64 c5]) else bif a2 == 2 then need (O.W 0 94 [] [ptr 0 0, sl 4 [int .i64 0, int .i64 1099511627776, int .i64 1099511627777, int
 .i64 (-1)]] [Ob.box 142 [sl a3 a4, int .i64 a5] false]) fun c6 => asTup (some c6) fun c7 => PI.asInt .i64 c7[0]? fun c8 => asSl c7[1]? fun c9 d0 => PI.asInt .i64 c7[2]? fun d1 => some
 (tup [int .i64 c, int .i64 d, sl e f, sl g i, sl j l, sl n p, int .i64 c8, bool w, sl x y, int .i64 z, sl c9 d0, int .i64 d1]) else bif a2 == 3 then
 need (O.W 0 94 [] [ptr 0 0, sl 4 [int .i64 (i64.wrap (z + 1)), int .i64 0, int .i64 (-1), int .i64 (i64.wrap (z - 1))]] [Ob.box 142 [sl a3 a4, int .i64 a5]
 false]) fun d2 => asTup (some d2) fun d3 => PI.asInt .i64 d3[0]? fun d4 => asSl d3[1]? fun d5 d6 => PI.asInt .i64 d3[2]? fun d7 => some (tup [int .i64 c, int .i64 d, sl e f, sl
 g i, sl j l, sl n p, int .i64 v, bool w, sl x y, int .i64 d4, sl d5 d6, int .i64 d7]) else bif a2 == 4 then some (tup [int .i64 c, int .i64 d, sl e f,
 sl g i, sl j l, sl n p, int .i64 v, bool w, sl 0 [], int .i64 z, sl a3 a4, int .i64 a5]) else bif a2 == 5 then must (true && (x + 1).ble 140737488355328 && ((x
 + 1) * 24).ble 140737488355328) (some (tup [int .i64 c, int .i64 d, sl e f, sl g i, sl j l, sl n p, int .i64 v, bool w, sl (x + 1) (y ++ [sl e f]), int
 .i64 z, sl a3 a4, int .i64 a5])) else bif a2 == 6 then need (O.W 0 94 [] [ptr 0 0, sl 3 [int .i64 31, int .i64 32, int .i64 0]] [Ob.box 142 [sl a3 a4, int .i64 a5] false])
 fun d8 => asTup (some d8) fun d9 => PI.asInt .i64 d9[0]? fun e0 => asSl d9[1]? fun e1 e2 => PI.asInt .i64 d9[2]? fun e3 => need (O.W 0 70 [] [ptr 0 0, int .i64 e0] [Ob.box 142 [sl e1
 e2, int .i64 e3] false]) fun e4 => asTup (some e4) fun e5 => asSl e5[0]? fun e6 e7 => asSl e5[1]? fun e8 e9 => PI.asInt .i64 e5[2]? fun f0 => must (inB 0 x) (must ([sl e6
 e7].length.beq 1 && (0 + [sl e6 e7].length).ble y.length) (some (tup [int .i64 c, int .i64 d, sl e f, sl g i, sl j l, sl n p, int .i64 v, bool w, sl x
 (splice y 0 [sl e6 e7]), int .i64 z, sl e8 e9, int .i64 f0]))) else bif a2 == 7 then some (tup [int .i64 c, int .i64 d, sl e f, sl g i, sl j l, sl n p,
 int .i64 v, bool w, sl 25 [sl 0 [], sl 0 [], sl 0 [], sl 0 [], sl 0 [], sl 0 [], sl 0 [], sl 0 [], sl 0 [], sl 0 [], sl 0 [], sl 0 [], sl 0 [], sl 0 [], sl 0
 [], sl 0 [], sl 0 [], sl 0 [], sl 0 [], sl 0 [], sl 0 [], sl 0 [], sl 0 [], sl 0 [], sl 0 []], int .i64 z, sl a3 a4, int .i64 a5]) else some (tup [int .i64 c, int
 .i64 d, sl e f, sl g i, sl j l, sl n p, int .i64 v, bool w, sl x y, int .i64 z, sl a3 a4, int .i64 a5])
theorem E95 (A B D G H I J K L M N P Q R S U W X) {r : V} (h : T95 (orcE C) A B D G H I J K L M N P Q R S U W X = some r) : runWE C 95 [] [ptr 0 0, agg [int .i64 A,
 int .i64 B, sl D G, sl H I, sl J K, sl L M, int .i64 N, bool P, sl Q R, int .i64 S]] [Ob.box 142 [sl U W, int .i64 X] false] = some r := ofW (j := 1) (F
 := fun s => T95 (orc C s.k) A B D G H I J K L M N P Q R S U W X) (fun _ => by kernel_rfl) (by
  unfold T95
  repeat' first | (with_reducible first | intro _ | exact cC | apply cN cR | apply cN cQ | apply cT | apply cI | apply cM | apply cF | apply cB | apply cL | apply cO | apply cN cC | exact cR | exact cQ)) h
def T73 (O : Orc) (A B : Int) (D : Nat) (G : List V) (H : Nat) (I : List V) (J : Nat) (K : List V) (L : Nat) (M : List V) (N : Int) (P : Bool) (Q : Nat) (R : List V) (S U W : Int) (X : Nat) (Y : List V) (Z : Nat) (A0 : List V) (A1 : Nat) (A2 : List V) (A3 : Nat) (A4 : List V) (A5 : Nat) (A6 : List V) (A7 : Int) : Option V := need (O.W 0 94 [] [ptr 0 0, sl 7 [int .i64 W, int .i64 (i64.wrap (W + 2)), int .i64 (i64.wrap (W + 2)), int .i64 (i64.wrap (B +
 N)), int .i64 (i64.wrap (i64.wrap (B + N) + 1)), int .i64 (i64.wrap (W - 1)), int .i64 (-1)]] [Ob.box 142 [sl A5 A6, int .i64 A7] false]) fun a => asTup
 (some a) fun b => PI.asInt .i64 b[0]? fun c => asSl b[1]? fun d e => PI.asInt .i64 b[2]? fun f => some (tup [int .i64 c, sl d e, int .i64 f])
theorem E73 (A B D G H I J K L M N P Q R S U W X Y Z A0 A1 A2 A3 A4 A5 A6 A7) {r : V} (h : T73 (orcE C) A B D G H I J K L M N P Q R S U W X Y Z A0 A1 A2 A3 A4 A5 A6 A7 = some r) : runWE C 73 [] [ptr 0 0, agg [int .i64 A, int .i64 B, sl D G, sl
 H I, sl J K, sl L M, int .i64 N, bool P, sl Q R, int .i64 S], agg [int .i64 U, int .i64 W, sl X Y, sl Z A0, sl A1 A2, sl A3 A4]] [Ob.box 142
 [sl A5 A6, int .i64 A7] false] = some r := ofW (j := 1) (F := fun s => T73 (orc C s.k) A B D G H I J K L M N P Q R S U W X Y Z A0 A1 A2 A3 A4 A5
 A6 A7) (fun _ => by kernel_rfl) (by
  unfold T73
  repeat' first | (with_reducible first | intro _ | exact cC | apply cN cQ | apply cT | apply cI | apply cL | apply cN cC | exact cQ)) h
def T74 (O : Orc) (A B : Int) (D : Nat) (G : List V) (H : Nat) (I : List V) (J : Nat) (K : List V) (L : Nat) (M : List V) (N : Int) (P : Bool) (Q : Nat) (R : List V) (S U : Int) : Option V := need (O.R 0 51 [int .i64 U, int .i64 0, int .i64 (i64.wrap (B + N))]) fun a => asTup (some a) fun b => PI.asBool
 b[0]? fun c => some (tup [bool !c])
theorem E74 (A B D G H I J K L M N P Q R S U) {r : V} (h : T74 (orcE C) A B D G H I J K L M N P Q R S U = some r) : runE C 74 [agg [int .i64 A, int .i64 B, sl D G, sl H I, sl J K,
 sl L M, int .i64 N, bool P, sl Q R, int .i64 S], int .i64 U] = some r := ofR (j := 1) (F := fun s => T74 (orc C s.k) A B D G H I J K L M N P Q
 R S U) (fun _ => by kernel_rfl) (by
  unfold T74
  repeat' first | (with_reducible first | intro _ | exact cC | apply cN cR | apply cT | apply cB | apply cN cC | exact cR)) h
def T89 (O : Orc) (A B : Int) (D : Nat) (G : List V) (H : Nat) (I : List V) (J : Nat) (K : List V) (L : Nat) (M : List V) (N : Int) (P : Bool) (Q : Nat) (R : List V) (S U W : Int) (X : Nat) (Y : List V) (Z : Nat) (A0 : List V) (A1 : Nat) (A2 : List V) (A3 : Bool) (A4 : Int) : Option V := bif !A3 then
 some (tup [int .i64 3]) else bif decide (W ≤ B) then some (tup [int .i64 3]) else bif decide (W > A4) then some (tup [int .i64 3]) else some (tup [int .i64 0])
theorem E89 (A B D G H I J K L M N P Q R S U W X Y Z A0 A1 A2 A3 A4) {r : V} (h : T89 (orcE C) A B D G H I J K L M N
 P Q R S U W X Y Z A0 A1 A2 A3 A4 = some r) : runE C 89 [agg [int .i64 A, int .i64 B, sl D G, sl H I, sl J K, sl L M, int .i64 N, bool P, sl
 Q R, int .i64 S], agg [int .i64 U, int .i64 W, sl X Y, sl Z A0, sl A1 A2], bool A3, int .i64 A4] = some r := ofR (j := 1) (F := fun s => T89 (orc C s.k) A B D G H I J K L M N P Q R S U W X Y Z A0 A1 A2 A3 A4) (fun _ => by kernel_rfl) (by
  unfold T89
  repeat' first | (with_reducible first | intro _ | exact cC | apply cF)) h
def T91 (O : Orc) (k : Nat) (A B : Int) (D : Nat) (G : List V) (H : Nat) (I : List V) (J : Nat) (K : List V) (L : Nat) (M : List V) (N : Int) (P : Bool) (Q : Nat) (R : List V) (S U W : Int) (X : Nat) (Y : List V) (Z : Nat) (A0 : List V) (A1 : Nat) (A2 : List V) (A3 : Nat) (A4 : List V) : Option V := need (O.R 0 102
 [sl A3 A4]) fun a => asTup (some a) fun b => PI.asInt .i64 b[0]? fun c => bif c != 0 then some (tup [int .i64 c, int .i64 0, int .i64 0, osl 0 [], osl 0 [], osl 0 [], osl 0
 [], int .i64 0, bool false, osl 0 [], int .i64 0]) else need (O.R 0 103 [sl A3 A4]) fun d => asTup (some d) fun e => asSl e[0]? fun f g => need (O.R 0 76 [sl A1 A2, sl f g])
 fun i => asTup (some i) fun j => PI.asBool j[0]? fun l => bif !l then some (tup [int .i64 1, int .i64 0, int .i64 0, osl 0 [], osl 0 [], osl 0 [], osl 0 [], int .i64 0,
 bool false, osl 0 [], int .i64 0]) else need (O.R 0 161 [sl Q R]) fun n => asTup (some n) fun p => asOsl p[0]? fun v w => O.L 0 91 0 [true, true, true, true, true, true, false,
 true] [] k [(4, ptr 0 0), (6, ptr 1 0), (8, ptr 7 0), (51, int .i64 (if 24 < i64.wrap (i64.wrap (U - A) - 1) then 24 else i64.wrap (i64.wrap (U - A) -
 1))), (52, int .i64 0)] [Ob.box 48 [int .i64 U, int .i64 W, sl X Y, sl Z A0, sl A1 A2] false, Ob.box 59 [int .i64 0, int .i64 0, int .i64 0, ref 2, ref 3, ref 4,
 ref 5, int .i64 0, bool false, ref 6, int .i64 0] false, Ob.row 5 0 [] false, Ob.row 5 0 [] false, Ob.row 5 0 [] false, Ob.row 161 0 [] false, Ob.nrow [] 22 0 [], Ob.box 52 [int .i64 U,
 int .i64 W, sl X Y, sl Z A0, sl A1 A2, sl A3 A4, int .i64 N, bool false, ref 8, int .i64 (i64.wrap (i64.wrap (U - if 24 < i64.wrap
 (i64.wrap (U - A) - 1) then 24 else i64.wrap (i64.wrap (U - A) - 1)) - (↑v : Int)))] false, Ob.row 22 v w false]
theorem E91 (A B D G H I J K L M N P Q R S U W X Y Z A0 A1 A2 A3 A4) {r : V} (h : T91 (orcE C) 0 A B D G H I J K L M N
 P Q R S U W X Y Z A0 A1 A2 A3 A4 = some r) : runE C 91 [agg [int .i64 A, int .i64 B, sl D G, sl H I, sl J K, sl L M, int .i64 N, bool P, sl
 Q R, int .i64 S], agg [int .i64 U, int .i64 W, sl X Y, sl Z A0, sl A1 A2], sl A3 A4] = some r := ofR (j := 1) (F := fun s => T91 (orc C s.k) s.k A B D
 G H I J K L M N P Q R S U W X Y Z A0 A1 A2 A3 A4) (fun _ => by kernel_rfl) (by
  unfold T91
  repeat' first | (with_reducible first | intro _ | exact cC | apply cN cR | apply cT | apply cI | apply cF | apply cB | apply cL | apply cO | apply cN cC | exact cR) | exact cD0 gK) h
def T78 (O : Orc) (A B : Int) (D : Nat) (G : List V) (H : Nat) (I : List V) (J : Nat) (K : List V) (L : Nat) (M : List V) (N : Int) (P : Bool) (Q : Nat) (R : List V) (S : Int) (U : Nat) (W : List V) (X Y : Int) (Z : Nat) (A0 : List V) (A1 : Nat) (A2 : List V) (A3 : Nat) (A4 : List V) (A5 : Nat) (A6 : List V) :
 Option V := need (O.R 0 90 [sl U W, agg [int .i64 X, int .i64 Y, sl Z A0, sl A1 A2, sl A3 A4, sl A5 A6]]) fun a => asTup (some a) fun b => PI.asBool b[0]? fun c
 => bif c then need (O.R 0 148 [sl U W, sl L M, agg [int .i64 X, int .i64 Y, sl Z A0, sl A1 A2, sl A3 A4, sl A5 A6]]) fun d => asTup (some d) fun e => PI.asInt
 .i64 e[0]? fun f => need (O.R 0 149 [sl L M]) fun g => asTup (some g) fun i => PI.asInt .i64 i[0]? fun j => some (tup [bool (decide (i64.wrap (3 * f) > j))]) else some (tup
 [bool false])
theorem E78 (A B D G H I J K L M N P Q R S U W X Y Z A0 A1 A2 A3 A4 A5 A6) {r : V} (h : T78 (orcE C) A B
 D G H I J K L M N P Q R S U W X Y Z A0 A1 A2 A3 A4 A5 A6 = some r) : runE C 78 [agg [int .i64 A, int .i64 B, sl D G, sl H I, sl J K, sl L
 M, int .i64 N, bool P, sl Q R, int .i64 S], sl U W, agg [int .i64 X, int .i64 Y, sl Z A0, sl A1 A2, sl A3 A4, sl A5 A6]] = some r := ofR (j := 1)
 (F := fun s => T78 (orc C s.k) A B D G H I J K L M N P Q R S U W X Y Z A0 A1 A2 A3 A4 A5 A6) (fun _ => by kernel_rfl) (by
  unfold T78
  repeat' first | (with_reducible first | intro _ | exact cC | apply cN cR | apply cT | apply cI | apply cF | apply cB | apply cN cC | exact cR)) h
def T29 (O : Orc) (k : Nat) (A B : Int) (D : Nat) (G : List V) (H : Nat) (I : List V) (J : Nat) (K : List V) (L : Nat) (M : List V) (N : Int) (P : Bool) (Q : Nat) (R : List V) (S : Int) : Option V := need (O.R 0 96 [agg [int .i64 A, int .i64 B, sl D G, sl H I, sl J K]]) fun a => asTup (some a) fun b => PI.asInt .i64 b[0]?
 fun c => bif c != 0 then some (tup [int .i64 c]) else need (O.R 0 97 [sl L M]) fun d => asTup (some d) fun e => PI.asInt .i64 e[0]? fun f => bif f != 0 then some (tup [int .i64
 f]) else need (O.R 0 69 [sl L M]) fun g => asTup (some g) fun i => asSl i[0]? fun j l => need (O.R 0 82 [sl J K, sl j l]) fun n => asTup (some n) fun p => PI.asBool p[0]?
 fun v => bif !v then some (tup [int .i64 1]) else need (O.R 0 98 [int .i64 N, int .i64 1, int .i64 1099511627776]) fun w => asTup (some w) fun x => PI.asBool x[0]? fun y =>
 bif !y then some (tup [int .i64 3]) else bif decide ((↑Q : Int) > 24) then some (tup [int .i64 2]) else bif (↑Q : Int) == 0 then some (tup [int .i64 1]) else bif decide (S < 1)
 then some (tup [int .i64 1]) else bif decide (S > A) then some (tup [int .i64 1]) else bif i64.wrap (i64.wrap (S + (↑Q : Int)) - 1) != A then some (tup [int .i64
 1]) else O.L 0 29 0 [true, true, true, true, true, true, true, true, false, true] [] k [(1, ptr 0 0), (5, int .i64 (↑Q : Int)), (6, int .i64 0)] [Ob.box 52 [int .i64 A, int .i64 B, sl
 D G, sl H I, sl J K, sl L M, int .i64 N, bool P, sl Q R, int .i64 S] false]
theorem E29 (A B D G H I J K L M N P Q R S) {r
 : V} (h : T29 (orcE C) 0 A B D G H I J K L M N P Q R S = some r) : runE C 29 [agg [int .i64 A, int .i64 B, sl D G, sl H I, sl J K, sl L M, int
 .i64 N, bool P, sl Q R, int .i64 S]] = some r := ofR (j := 1) (F := fun s => T29 (orc C s.k) s.k A B D G H I J K L M N P Q R S) (fun _ => by kernel_rfl) (by
  unfold T29
  repeat' first | (with_reducible first | intro _ | exact cC | apply cN cR | apply cT | apply cI | apply cF | apply cB | apply cL | apply cN cC | exact cR) | exact cD0 gK) h
def T80 (O : Orc) (A B : Int) (D : Nat) (G : List V) (H : Nat) (I : List V) (J : Nat) (K : List V) (L : Nat) (M : List V) (N : Int) (P : Bool) (Q : Nat) (R : List V) (S U : Int) : Option V := bif decide (U < 0) then some (tup [bool true]) else some (tup [bool (decide (U > i64.wrap (B + N)))])
theorem E80 (A B D G H I J K L M N P Q R S U) {r : V} (h : T80 (orcE C) A B D G H I J K L M N P Q R S U = some r) : runE C 80 [pin [int .i64 A, int .i64 B, sl D G, sl H I, sl J K,
 sl L M, int .i64 N, bool P, sl Q R, int .i64 S] 0, int .i64 U] = some r := ofR (j := 1) (F := fun s => T80 (orc C s.k) A B D G H I J K L M N P Q
 R S U) (fun _ => by kernel_rfl) (by
  unfold T80
  repeat' first | (with_reducible first | intro _ | exact cC | apply cF)) h
def T81 (O : Orc) (k : Nat) (A : Nat) (B : List V) (D G : Int) (H : Nat) (I : List V) (J : Nat) (K : List V) (L : Nat) (M : List V) (N : Nat) (P : List V) :
 Option V := need (O.R 0 97 [sl A B]) fun a => asTup (some a) fun b => PI.asInt .i64 b[0]? fun c => bif c != 0 then some (tup [int .i64 c]) else need (O.R 0 96 [agg [int .i64 D,
 int .i64 G, sl H I, sl J K, sl L M]]) fun d => asTup (some d) fun e => PI.asInt .i64 e[0]? fun f => bif f != 0 then some (tup [int .i64 f]) else need (O.R 0 69 [sl A B])
 fun g => asTup (some g) fun i => asSl i[0]? fun j l => need (O.R 0 82 [sl J K, sl j l]) fun n => asTup (some n) fun p => PI.asBool p[0]? fun v => bif !v then some (tup
 [int .i64 1]) else bif decide ((↑N : Int) > 5) then some (tup [int .i64 2]) else need (O.R 0 83 [agg [int .i64 D, int .i64 G, sl H I, sl J K, sl L M]]) fun w => asTup
 (some w) fun x => asSl x[0]? fun y z => O.L 0 81 0 [true, true, true, true, true, true, false, true] [] k [(0, sl A B), (3, ptr 0 0), (7, sl y z), (8, int .i64 0)] [Ob.box 55
 [int .i64 D, int .i64 G, sl H I, sl J K, sl L M, sl N P] false]
theorem E81 (A B D G H I J K L M N P) {r : V} (h : T81 (orcE C) 0 A B
 D G H I J K L M N P = some r) : runE C 81 [sl A B, agg [int .i64 D, int .i64 G, sl H I, sl J K, sl L M, sl N P]] = some r := ofR (j := 1) (F := fun s => T81 (orc C s.k) s.k A B D G H I J K L M N P) (fun _ => by kernel_rfl) (by
  unfold T81
  repeat' first | (with_reducible first | intro _ | exact cC | apply cN cR | apply cT | apply cI | apply cF | apply cB | apply cL | apply cN cC | exact cR) | exact cD0 gK) h
def T84 (O : Orc) (A : Nat) (B : List V) (D G : Int) (H : Nat) (I : List V) (J : Nat) (K : List V) (L : Nat) (M : List V) (N : Nat) (P : List V) :
 Option V := need (O.R 0 81 [sl A B, agg [int .i64 D, int .i64 G, sl H I, sl J K, sl L M, sl N P]]) fun a => asTup (some a) fun b => PI.asInt .i64 b[0]? fun c => bif
 c == 0 then need (O.R 0 155 [sl A B, agg [int .i64 D, int .i64 G, sl H I, sl J K, sl L M, sl N P]]) fun d => asTup (some d) fun e => PI.asInt .i64 e[0]? fun f =>
 need (O.R 0 156 [sl A B]) fun g => asTup (some g) fun i => PI.asInt .i64 i[0]? fun j => some (tup [bool (decide (i64.wrap (3 * f) > i64.wrap (2 * j)))]) else some (tup
 [bool false])
theorem E84 (A B D G H I J K L M N P) {r : V} (h : T84 (orcE C) A B
 D G H I J K L M N P = some r) : runE C 84 [sl A B, agg [int .i64 D, int .i64 G, sl H I, sl J K, sl L M, sl N P]] = some r := ofR (j := 1) (F := fun s => T84 (orc C s.k) A B D G H I J K L M N P) (fun _ => by kernel_rfl) (by
  unfold T84
  repeat' first | (with_reducible first | intro _ | exact cC | apply cN cR | apply cT | apply cI | apply cF | apply cN cC | exact cR)) h
def T165 (O : Orc) (k : Nat) (A B : Int) (D : Nat) (G : List V) (H : Nat) (I : List V) (J : Nat) (K : List V) (L : Nat) (M : List V) (N : Int) (P : Bool) (Q : Nat) (R : List V) (S U W : Int) (X : Nat) (Y : List V) (Z : Nat) (A0 : List V) (A1 : Nat) (A2 : List V) (A3 : Nat) (A4 : List V) (A5 : Nat) (A6 : List V) :
 Option V := need (O.R 0 97 [sl A5 A6]) fun a => asTup (some a) fun b => PI.asInt .i64 b[0]? fun c => bif c != 0 then some (tup [int .i64 c, int .i64 0, int .i64 0, sl 0 [], sl 0
 [], sl 0 [], sl 0 [], int .i64 0, bool false, sl 0 [], int .i64 0]) else need (O.R 0 69 [sl A5 A6]) fun d => asTup (some d) fun e => asSl e[0]? fun f g => need (O.R 0 82 [sl
 A1 A2, sl f g]) fun i => asTup (some i) fun j => PI.asBool j[0]? fun l => bif !l then some (tup [int .i64 1, int .i64 0, int .i64 0, sl 0 [], sl 0 [], sl 0 [], sl 0 [],
 int .i64 0, bool false, sl 0 [], int .i64 0]) else need (O.R 0 86 [agg [int .i64 A, int .i64 B, sl D G, sl H I, sl J K, sl L M, int .i64 N, bool P, sl Q
 R, int .i64 S]]) fun n => asTup (some n) fun p => PI.asInt .i64 p[0]? fun v => PI.asInt .i64 p[1]? fun w => asOsl p[2]? fun x y => asOsl p[3]? fun z a0 => asOsl p[4]?
 fun a1 a2 => asOsl p[5]? fun a3 a4 => PI.asInt .i64 p[6]? fun a5 => PI.asBool p[7]? fun a6 => asOsl p[8]? fun a7 a8 => PI.asInt .i64 p[9]? fun a9 => bif decide (i64.wrap
 (i64.wrap (U - A) - 1) ≥ 24) then must (decide (Y.length = X * 1)) (must (true && (0 + X).ble 140737488355328 && ((0 + X) * 1).ble 140737488355328) (O.L 0 165 0 [true, true, true,
 true, true, true, true, false] [] k [(2, sl A5 A6), (4, ptr 0 0), (6, ptr 1 0), (8, ptr 7 0)] [Ob.box 55 [int .i64 U, int .i64 W, sl X Y, sl Z A0, sl A1 A2, sl A3
 A4] false, Ob.box 59 [int .i64 0, int .i64 0, int .i64 0, ref 2, ref 3, ref 4, ref 5, int .i64 0, bool false, ref 6, int .i64 0] false, Ob.row 5 0 [] false, Ob.row 5 0 [] false,
 Ob.row 5 0 [] false, Ob.row 161 0 [] false, Ob.nrow [] 22 0 [], Ob.box 52 [int .i64 v, int .i64 w, ref 8, ref 9, ref 10, ref 11, int .i64 a5, bool a6, ref 12, int .i64
 (i64.wrap (i64.wrap (U - 24) + 1))] false, Ob.row 5 x y false, Ob.row 5 z a0 false, Ob.row 5 a1 a2 false, Ob.row 161 a3 a4 false, Ob.row 22 24 [sl 0 [], sl 0 [], sl
 0 [], sl 0 [], sl 0 [], sl 0 [], sl 0 [], sl 0 [], sl 0 [], sl 0 [], sl 0 [], sl 0 [], sl 0 [], sl 0 [], sl 0 [], sl 0 [], sl 0 [], sl 0 [], sl 0 [], sl 0 [], sl 0
 [], sl 0 [], sl 0 [], sl (0 + X) Y] false])) else must (decide (0 ≤ i64.wrap (i64.wrap (U - A) - 1)) && decide (i64.wrap (i64.wrap (U - A) - 1) ≤
 140737488355328)) (must (true && decide (a7 + (i64.wrap (i64.wrap (U - A) - 1)).toNat ≤ 140737488355328) && decide ((a7 + (i64.wrap (i64.wrap (U - A) -
 1)).toNat) * 24 ≤ 140737488355328)) (must (decide (Y.length = X * 1)) (must (true && (0 + X).ble 140737488355328 && ((0 + X) * 1).ble 140737488355328) (must (true && (a7 + (i64.wrap
 (i64.wrap (U - A) - 1)).toNat + 1).ble 140737488355328 && ((a7 + (i64.wrap (i64.wrap (U - A) - 1)).toNat + 1) * 24).ble 140737488355328) (O.L 0 165 0 [true, true, true,
 true, true, true, true, false] [] k [(2, sl A5 A6), (4, ptr 0 0), (6, ptr 1 0), (8, ptr 7 0)] [Ob.box 55 [int .i64 U, int .i64 W, sl X Y, sl Z A0, sl A1 A2, sl A3
 A4] false, Ob.box 59 [int .i64 0, int .i64 0, int .i64 0, ref 2, ref 3, ref 4, ref 5, int .i64 0, bool false, ref 6, int .i64 0] false, Ob.row 5 0 [] false, Ob.row 5 0 [] false,
 Ob.row 5 0 [] false, Ob.row 161 0 [] false, Ob.nrow [] 22 0 [], Ob.box 52 [int .i64 v, int .i64 w, ref 8, ref 9, ref 10, ref 11, int .i64 a5, bool a6, ref 12, int .i64 a9]
 false, Ob.row 5 x y false, Ob.row 5 z a0 false, Ob.row 5 a1 a2 false, Ob.row 161 a3 a4 false, Ob.row 22 (a7 + (i64.wrap (i64.wrap (U - A) - 1)).toNat + 1) (a8 ++ reps
 (i64.wrap (i64.wrap (U - A) - 1)).toNat [sl 0 []] ++ [sl (0 + X) Y]) false])))))
theorem E165 (A B D G H I J K L M N P Q R S U W X Y Z A0 A1 A2 A3 A4 A5 A6) {r : V} (h : T165 (orcE C) 0 A B
 D G H I J K L M N P Q R S U W X Y Z A0 A1 A2 A3 A4 A5 A6 = some r) : runE C 165 [agg [int .i64 A, int .i64 B, sl D G, sl H I, sl J K, sl L
 M, int .i64 N, bool P, sl Q R, int .i64 S], agg [int .i64 U, int .i64 W, sl X Y, sl Z A0, sl A1 A2, sl A3 A4], sl A5 A6] = some r := ofR (j := 1)
 (F := fun s => T165 (orc C s.k) s.k A B D G H I J K L M N P Q R S U W X Y Z A0 A1 A2 A3 A4 A5 A6) (fun _ => by kernel_rfl) (by
  unfold T165
  repeat' first | (with_reducible first | intro _ | exact cC | apply cN cR | apply cT | apply cI | apply cM | apply cF | apply cB | apply cL | apply cO | apply cN cC | exact cR) | exact cD0 gK) h
def T85 (O : Orc) (A B : Int) (D : Nat) (G : List V) (H : Nat) (I : List V) (J : Nat) (K : List V) (L : Nat) (M : List V) (N : Int) (P : Bool) (Q : Nat) (R : List V) (S : Int) (U : Nat) (W : List V) (X Y : Int) (Z : Nat) (A0 : List V) (A1 : Nat) (A2 : List V) (A3 : Nat) (A4 : List V) (A5 : Nat) (A6 : List V) :
 Option V := need (O.R 0 157 [sl U W, sl L M, agg [int .i64 X, int .i64 Y, sl Z A0, sl A1 A2, sl A3 A4, sl A5 A6]]) fun a => asTup (some a) fun b => PI.asInt
 .i64 b[0]? fun c => need (O.R 0 156 [sl L M]) fun d => asTup (some d) fun e => PI.asInt .i64 e[0]? fun f => some (tup [bool (decide (i64.wrap (3 * c) > f))])
theorem E85 (A B D G H I J K L M N P Q R S U W X Y Z A0 A1 A2 A3 A4 A5 A6) {r : V} (h : T85 (orcE C) A B
 D G H I J K L M N P Q R S U W X Y Z A0 A1 A2 A3 A4 A5 A6 = some r) : runE C 85 [pin [int .i64 A, int .i64 B, sl D G, sl H I, sl J K, sl L
 M, int .i64 N, bool P, sl Q R, int .i64 S] 0, sl U W, agg [int .i64 X, int .i64 Y, sl Z A0, sl A1 A2, sl A3 A4, sl A5 A6]] = some r := ofR (j := 1)
 (F := fun s => T85 (orc C s.k) A B D G H I J K L M N P Q R S U W X Y Z A0 A1 A2 A3 A4 A5 A6) (fun _ => by kernel_rfl) (by
  unfold T85
  repeat' first | (with_reducible first | intro _ | exact cC | apply cN cR | apply cT | apply cI | apply cN cC | exact cR)) h
def T77 (O : Orc) (A B : Int) (D : Nat) (G : List V) (H : Nat) (I : List V) (J : Nat) (K : List V) : Option V := need (O.R 0 133 [int .i64 A]) fun a
 => asTup (some a) fun b => asSl b[0]? fun c d => need (O.R 0 133 [int .i64 B]) fun e => asTup (some e) fun f => asSl f[0]? fun g i => need (O.R 0 131 [sl 5 [sl c d, sl g i,
 sl D G, sl H I, sl J K]]) fun j => asTup (some j) fun l => asSl l[0]? fun n p => need (O.R 0 147 [str { data := #[(98 : UInt8), (102 : UInt8), (116 : UInt8)] }, sl 1 [sl
 n p]]) fun v => asTup (some v) fun w => asOsl w[0]? fun x y => some (tup [sl x y])
theorem E77 (A B D G H I J K) {r : V} (h : T77 (orcE C) A B D G H I J K = some r) : runE C 77 [agg
 [int .i64 A, int .i64 B, sl D G, sl H I, sl J K]] = some r := ofR (j := 1) (F := fun s => T77 (orc C s.k) A B D G H I J K) (fun _ => by kernel_rfl) (by
  unfold T77
  repeat' first | (with_reducible first | intro _ | exact cC | apply cN cR | apply cT | apply cL | apply cO | apply cN cC | exact cR)) h
def T75l1 (O : Orc) (m : Nat) (A : Nat) (B : List V) (D : Int) (G : Nat) (H : List V) (I : Nat) (J : List V) (K L : Int) : Option V := bif decide (L < K) then
 must (inB L I) (PI.asInt .i64 J[L.toNat * 6]? fun a => PI.asInt .i64 J[L.toNat * 6 + 1]? fun b => asSl J[L.toNat * 6 + 1 + 1]? fun c d => PI.asInt .i64 J[L.toNat * 6 + 1 + 1 + 1]? fun e
 => PI.asInt .i64 J[L.toNat * 6 + 1 + 1 + 1 + 1]? fun f => asSl J[L.toNat * 6 + 1 + 1 + 1 + 1 + 1]? fun g i => need (O.R 0 51 [int .i64 a, int .i64 (i64.wrap (D + 1)), int .i64
 (i64.wrap ((↑A : Int) - 1))]) fun j => asTup (some j) fun l => PI.asBool l[0]? fun n => bif !n then some (tup [int .i64 3]) else must (inB a A) (must (decide (a.toNat * 2 + 0
 < B.length)) (asSl B[a.toNat * 2 + 0]? fun p v => need (O.R 0 146 [sl p v, sl G H, agg [int .i64 b, sl c d, int .i64 e, int .i64 f, sl g i]]) fun w => asTup (some
 w) fun x => PI.asBool x[0]? fun y => bif !y then some (tup [int .i64 6]) else O.L 0 75 1 [true, true, true, true, true, false, true] [] m [(0, sl A B), (7, int .i64 a), (8, sl
 G H), (39, sl I J), (40, int .i64 K), (41, int .i64 (i64.wrap (L + 1)))] []))) else some (tup [int .i64 0])
theorem E75l1 (A B D G H I J K L) {r : V} (h : T75l1 (orcE C) 0 A B D G H I J K L = some r) :
 loopE C 75 1 [true, true, true, true, true, false, true] [] [(0, sl A B), (7, int .i64 D), (8, sl G H), (39, sl I J), (40, int .i64 K), (41, int .i64 L)] [] = some r := ofL (j :=
 0) (F := fun s => T75l1 (orc C s.k) s.m A B D G H I J K L) (fs0 fun _ _ => by kernel_rfl) (by
  unfold T75l1
  repeat' first | (with_reducible first | intro _ | exact cC | apply cN cR | apply cT | apply cI | apply cM | apply cF | apply cB | apply cL | apply cN cC | exact cR) | exact cD0 gM) h
def T160 (O : Orc) (k : Nat) (A : Nat) (B : List V) (D G : Int) (H : Nat) (I : List V) (J : Nat) (K : List V) (L : Nat) (M : List V) (N : Nat) (P : List V) : Option V := O.L 0 160 0 [true, true, false, true] [] k [(0, sl A B), (5, int .i64 0), (9, sl N P), (10, int .i64 (↑N : Int)), (11, int .i64 0)] []
theorem E160 (A B D G H I J K L M N P) {r : V} (h : T160 (orcE C) 0 A
 B D G H I J K L M N P = some r) : runE C 160 [sl A B, agg [int .i64 D, int .i64 G, sl H I, sl J K, sl L M, sl N P]] = some r := ofR (j := 1) (F := fun s =>
 T160 (orc C s.k) s.k A B D G H I J K L M N P) (fun _ => by kernel_rfl) (by
  unfold T160
  repeat' first | with_reducible exact cC | exact cD0 gK) h
def T149 (O : Orc) (k : Nat) (A : Nat) (B : List V) : Option V := O.L 0 149 0 [true, true, false, true] [] k [(3, int .i64 0), (6, sl A B), (7, int .i64 (↑A : Int)),
 (8, int .i64 0)] []
theorem E149 (A B) {r : V} (h : T149 (orcE C) 0 A B = some r) : runE C 149 [sl A B] = some r := ofR (j := 1) (F := fun s => T149 (orc C s.k) s.k A B) (fun _ =>
 by kernel_rfl) (by
  unfold T149
  repeat' first | with_reducible exact cC | exact cD0 gK) h
def T128 (O : Orc) (A : Nat) (B : List V) : Option V := need (O.R 0 104 [sl A B, fn 181 []]) fun a => asTup (some a) fun b => PI.asBool b[0]? fun c => some
 (tup [bool !c])
theorem E128 (A B) {r : V} (h : T128 (orcE C) A B = some r) : runE C 128 [sl A B] = some r := ofR (j := 1) (F := fun s => T128 (orc C s.k) A B) (fun _ =>
 by kernel_rfl) (by
  unfold T128
  repeat' first | (with_reducible first | intro _ | exact cC | apply cN cR | apply cT | apply cB | apply cN cC | exact cR)) h
def T102l1 (O : Orc) (m : Nat) (A : Nat) (B : List V) (D : Nat) (G : List V) (H I : Int) : Option V := bif decide (I < H) then must (inB I D) (asSl G[I.toNat *
 2]? fun a b => PI.asInt .i64 G[I.toNat * 2 + 1]? fun c => need (O.R 0 106 [sl a b]) fun d => asTup (some d) fun e => PI.asBool e[0]? fun f => bif !f then some (tup [int .i64 1])
 else need (O.R 0 51 [int .i64 c, int .i64 1, int .i64 1000]) fun g => asTup (some g) fun i => PI.asBool i[0]? fun j => bif !j then some (tup [int .i64 3]) else must (decide (0 ≤ I)
 && decide (I ≤ (↑A : Int))) (need (O.R 0 166 [sl (I.toNat - 0) (List.take ((I.toNat - 0) * 2) (List.drop 0 B)), sl a b]) fun l => asTup (some l) fun n => PI.asInt .i64 n[0]? fun p
 => bif decide (p ≥ 0) then some (tup [int .i64 7]) else O.L 0 102 1 [true, true, false, true] [] m [(0, sl A B), (13, sl D G), (14, int .i64 H), (15, int .i64 (i64.wrap (I
 + 1)))] [])) else some (tup [int .i64 0])
theorem E102l1 (A B D G H I) {r : V} (h : T102l1 (orcE C) 0 A B D G H I = some r) : loopE C 102 1 [true, true, false, true] [] [(0,
 sl A B), (13, sl D G), (14, int .i64 H), (15, int .i64 I)] [] = some r := ofL (j := 0) (F := fun s => T102l1 (orc C s.k) s.m A B D G H I) (fs0 fun _ _ => by kernel_rfl) (by
  unfold T102l1
  repeat' first | (with_reducible first | intro _ | exact cC | apply cN cR | apply cT | apply cI | apply cM | apply cF | apply cB | apply cL | apply cN cC | exact cR) | exact cD0 gM) h
def T103l1 (O : Orc) (m : Nat) (A : Nat) (B : List V) (D G : Int) (H : Nat) (I : List V) : Option V := bif decide (G < D) then must (inB G A) (asSl B[G.toNat *
 2]? fun a b => PI.asInt .i64 B[G.toNat * 2 + 1]? fun c => need (O.R 0 133 [int .i64 c]) fun d => asTup (some d) fun e => asSl e[0]? fun f g => must (true && (H + 2).ble 140737488355328
 && ((H + 2) * 24).ble 140737488355328) (O.L 0 103 0 [true, true, false, true] [] m [(3, ref 0), (7, sl A B), (8, int .i64 D), (9, int .i64 (i64.wrap (G + 1)))] [Ob.row 22 (H + 2)
 (I ++ [sl a b, sl f g]) false])) else need (O.R 0 131 [sl H I]) fun i => asTup (some i) fun j => asSl j[0]? fun l n => need (O.R 0 147 [str { data := #[(115 : UInt8), (101 :
 UInt8), (116 : UInt8)] }, sl 1 [sl l n]]) fun p => asTup (some p) fun v => asOsl v[0]? fun w x => some (tup [sl w x])
theorem E103l1 (A B D G H I) {r : V} (h : T103l1 (orcE C) 0 A B D G H I = some r) : loopE C 103 0 [true, true, false, true] [] [(3,
 ref 0), (7, sl A B), (8, int .i64 D), (9, int .i64 G)] [Ob.row 22 H I false] = some r := ofL (j := 0) (F := fun s => T103l1 (orc C s.k) s.m A B D G H I) (fs0 fun _ _ => by
 kernel_rfl) (by
  unfold T103l1
  repeat' first | (with_reducible first | intro _ | exact cC | apply cN cR | apply cT | apply cI | apply cM | apply cF | apply cL | apply cO | apply cN cC | exact cR) | exact cD0 gM) h
def T167 (O : Orc) (k : Nat) (A : Nat) (B : List V) : Option V := O.L 0 167 0 [true, false, true] [] k [(0, sl A B), (1, fn 105 []), (7, int .i64 (↑A : Int)), (8, int
 .i64 0)] []
theorem E167 (A B) {r : V} (h : T167 (orcE C) 0 A B = some r) : runE C 167 [sl A B, fn 105 []] = some r := ofR (j := 1) (F := fun s => T167 (orc C s.k) s.k A
 B) (fun _ => by kernel_rfl) (by
  unfold T167
  repeat' first | with_reducible exact cC | exact cD0 gK) h
def T66l1 (O : Orc) (m : Nat) (A : Nat) (B : List V) (D : Nat) (G : List V) (H : Int) (I : Nat) (J : List V) (K L M N : Int) (P : Bool) (Q
 : Int) (R : Nat) (S : List V) (U : Nat) (W : List V) (X : Nat) (Y : List V) (Z : Nat) (A0 : List V) (A1 : Nat) (A2 : List V) (A3 : Nat) (A4 : List V) (A5 : Nat) (A6 : List V) (A7
 : Nat) (A8 : List V) : Option V := bif decide (H > 0) then need (O.W 0 41 [] [ptr 0 0, int .i64 4] [Ob.box 142 [sl I J, int .i64 K] false]) fun a => asTup (some a) fun b => PI.asInt
 .i64 b[0]? fun c => asSl b[1]? fun d e => PI.asInt .i64 b[2]? fun f => need (O.W 0 70 [] [ptr 0 0, int .i64 (i64.wrap (1 + c))] [Ob.box 142 [sl d e, int .i64 f] false]) fun
 g => asTup (some g) fun i => asSl i[0]? fun j l => asSl i[1]? fun n p => PI.asInt .i64 i[2]? fun v => must (true && (A7 + 1).ble 140737488355328 && ((A7 + 1) * 24).ble
 140737488355328) (O.X 0 66 [] [Ob.box 142 [V.u, V.u] false] 0 [true, true, true, true, false, true] [] m [(0, ptr 0 0), (2, ptr 1 0), (4, sl A B), (5, sl D G), (6, ref 9), (7, int .i64
 (i64.wrap (H - 1)))] [Ob.box 142 [sl n p, int .i64 v] false, Ob.box 106 [int .i64 L, int .i64 M, ref 2, ref 3, ref 4, ref 5, int .i64 N, bool P, ref 6,
 int .i64 Q, ref 7, ref 8] false, Ob.row 5 R S false, Ob.row 5 U W false, Ob.row 5 X Y false, Ob.row 161 Z A0 false, Ob.nrow [] 22 A1 A2, Ob.nrow [] 22 A3 A4, Ob.nrow [] 22
 A5 A6, Ob.row 22 (A7 + 1) (A8 ++ [sl j l]) false]) else need (O.W 0 41 [] [ptr 0 0, int .i64 4] [Ob.box 142 [sl I J, int .i64 K] false]) fun w => asTup (some w) fun x =>
 PI.asInt .i64 x[0]? fun y => asSl x[1]? fun z a0 => PI.asInt .i64 x[2]? fun a1 => need (O.W 0 41 [] [ptr 0 0, int .i64 20] [Ob.box 142 [sl z a0, int .i64 a1] false]) fun a2 =>
 asTup (some a2) fun a3 => PI.asInt .i64 a3[0]? fun a4 => asSl a3[1]? fun a5 a6 => PI.asInt .i64 a3[2]? fun a7 => need (O.R 0 68 [sl A7 A8]) fun a8 => asTup (some a8) fun a9 => asOsl
 a9[0]? fun b0 b1 => need (O.W 0 70 [] [ptr 0 0, int .i64 32] [Ob.box 142 [sl a5 a6, int .i64 a7] false]) fun b2 => asTup (some b2) fun b3 => asSl b3[0]? fun b4 b5 => asSl b3[1]?
 fun b6 b7 => PI.asInt .i64 b3[2]? fun b8 => need (O.R 0 69 [sl D G]) fun b9 => asTup (some b9) fun c0 => asSl c0[0]? fun c1 c2 => both (both (need (O.W 0 94 [] [ptr 0 0, sl 3 [int
 .i64 50, int .i64 20, int .i64 100]] [Ob.box 142 [sl b6 b7, int .i64 b8] false]) fun c3 => asTup (some c3) fun c4 => PI.asInt .i64 c4[0]? fun c5 => asSl c4[1]? fun c6 c7 => PI.asInt
 .i64 c4[2]? fun c8 => bif decide (i64.wrap (1 + y) > 2) then need (O.W 0 40 [] [ptr 0 0, int .i64 2] [Ob.box 142 [sl c6 c7, int .i64 c8] false]) fun c9 => asTup (some c9) fun
 d0 => PI.asBool d0[0]? fun d1 => asSl d0[1]? fun d2 d3 => PI.asInt .i64 d0[2]? fun d4 => bif d1 then need (O.W 0 70 [] [ptr 0 0, int .i64 32] [Ob.box 142 [sl d2 d3, int .i64 d4]
 false]) fun d5 => asTup (some d5) fun d6 => asSl d6[0]? fun d7 d8 => asSl d6[1]? fun d9 e0 => PI.asInt .i64 d6[2]? fun e1 => need (O.W 0 40 [] [ptr 0 0, int .i64 8] [Ob.box 142 [sl
 d9 e0, int .i64 e1] false]) fun e2 => asTup (some e2) fun e3 => PI.asBool e3[0]? fun e4 => asSl e3[1]? fun e5 e6 => PI.asInt .i64 e3[2]? fun e7 => bif e4 then some (tup [int .i64
 (i64.wrap (1 + y)), int .i64 a4, sl b0 b1, sl b4 b5, sl c1 c2, sl D G, int .i64 c5, bool true, sl 3 [sl d7 d8, sl 0 [], sl b0 b1], int .i64
 (i64.wrap (i64.wrap (1 + y) - 2)), sl A B, sl A7 A8, sl e5 e6, int .i64 e7]) else some (tup [int .i64 (i64.wrap (1 + y)), int .i64 a4, sl b0 b1,
 sl b4 b5, sl c1 c2, sl D G, int .i64 c5, bool false, sl 3 [sl d7 d8, sl 0 [], sl b0 b1], int .i64 (i64.wrap (i64.wrap (1 + y) - 2)), sl A B, sl
 A7 A8, sl e5 e6, int .i64 e7]) else need (O.W 0 40 [] [ptr 0 0, int .i64 8] [Ob.box 142 [sl d2 d3, int .i64 d4] false]) fun e8 => asTup (some e8) fun e9 => PI.asBool e9[0]? fun
 f0 => asSl e9[1]? fun f1 f2 => PI.asInt .i64 e9[2]? fun f3 => bif f0 then some (tup [int .i64 (i64.wrap (1 + y)), int .i64 a4, sl b0 b1, sl b4 b5, sl c1 c2, sl D
 G, int .i64 c5, bool true, sl 1 [sl b0 b1], int .i64 (i64.wrap (1 + y)), sl A B, sl A7 A8, sl f1 f2, int .i64 f3]) else some (tup [int .i64 (i64.wrap
 (1 + y)), int .i64 a4, sl b0 b1, sl b4 b5, sl c1 c2, sl D G, int .i64 c5, bool false, sl 1 [sl b0 b1], int .i64 (i64.wrap (1 + y)), sl A B, sl A7
 A8, sl f1 f2, int .i64 f3]) else need (O.W 0 40 [] [ptr 0 0, int .i64 8] [Ob.box 142 [sl c6 c7, int .i64 c8] false]) fun f4 => asTup (some f4) fun f5 => PI.asBool f5[0]? fun f6
 => asSl f5[1]? fun f7 f8 => PI.asInt .i64 f5[2]? fun f9 => bif f6 then some (tup [int .i64 (i64.wrap (1 + y)), int .i64 a4, sl b0 b1, sl b4 b5, sl c1 c2, sl D G,
 int .i64 c5, bool true, sl 1 [sl b0 b1], int .i64 (i64.wrap (1 + y)), sl A B, sl A7 A8, sl f7 f8, int .i64 f9]) else some (tup [int .i64 (i64.wrap (1
 + y)), int .i64 a4, sl b0 b1, sl b4 b5, sl c1 c2, sl D G, int .i64 c5, bool false, sl 1 [sl b0 b1], int .i64 (i64.wrap (1 + y)), sl A B, sl A7 A8,
 sl f7 f8, int .i64 f9])) (need (O.W 0 94 [] [ptr 0 0, sl 3 [int .i64 50, int .i64 20, int .i64 100]] [Ob.box 142 [sl b6 b7, int .i64 b8] false]) fun g0 => asTup (some g0) fun
 g1 => PI.asInt .i64 g1[0]? fun g2 => asSl g1[1]? fun g3 g4 => PI.asInt .i64 g1[2]? fun g5 => bif decide (i64.wrap (1 + y) > 2) then need (O.W 0 40 [] [ptr 0 0, int .i64 2]
 [Ob.box 142 [sl g3 g4, int .i64 g5] false]) fun g6 => asTup (some g6) fun g7 => PI.asBool g7[0]? fun g8 => asSl g7[1]? fun g9 h0 => PI.asInt .i64 g7[2]? fun h1 => bif g8 then need
 (O.W 0 70 [] [ptr 0 0, int .i64 32] [Ob.box 142 [sl g9 h0, int .i64 h1] false]) fun h2 => asTup (some h2) fun h3 => asSl h3[0]? fun h4 h5 => asSl h3[1]? fun h6 h7 => PI.asInt .i64
 h3[2]? fun h8 => need (O.W 0 40 [] [ptr 0 0, int .i64 8] [Ob.box 142 [sl h6 h7, int .i64 h8] false]) fun h9 => asTup (some h9) fun i0 => PI.asBool i0[0]? fun i1 => asSl i0[1]? fun
 i2 i3 => PI.asInt .i64 i0[2]? fun i4 => bif i1 then some (tup [int .i64 (i64.wrap (1 + y)), int .i64 a4, sl b0 b1, sl b4 b5, sl c1 c2, sl D G, int .i64 g2,
 bool true, sl 3 [sl h4 h5, sl 0 [], sl b0 b1], int .i64 (i64.wrap (i64.wrap (1 + y) - 2)), sl A B, sl A7 A8, sl i2 i3, int .i64 i4]) else some
 (tup [int .i64 (i64.wrap (1 + y)), int .i64 a4, sl b0 b1, sl b4 b5, sl c1 c2, sl D G, int .i64 g2, bool false, sl 3 [sl h4 h5, sl 0 [], sl b0 b1],
 int .i64 (i64.wrap (i64.wrap (1 + y) - 2)), sl A B, sl A7 A8, sl i2 i3, int .i64 i4]) else need (O.W 0 40 [] [ptr 0 0, int .i64 8] [Ob.box 142 [sl g9 h0,
 int .i64 h1] false]) fun i5 => asTup (some i5) fun i6 => PI.asBool i6[0]? fun i7 => asSl i6[1]? fun i9 j0 => PI.asInt .i64 i6[2]? fun j1 => bif i7 then some (tup [int .i64
 (i64.wrap (1 + y)), int .i64 a4, sl b0 b1, sl b4 b5, sl c1 c2, sl D G, int .i64 g2, bool true, sl 1 [sl b0 b1], int .i64 (i64.wrap (1 + y)), sl A
 B, sl A7 A8, sl i9 j0, int .i64 j1]) else some (tup [int .i64 (i64.wrap (1 + y)), int .i64 a4, sl b0 b1, sl b4 b5, sl c1 c2, sl D G, int .i64 g2,
 bool false, sl 1 [sl b0 b1], int .i64 (i64.wrap (1 + y)), sl A B, sl A7 A8, sl i9 j0, int .i64 j1]) else need (O.W 0 40 [] [ptr 0 0, int .i64 8] [Ob.box 142
 [sl g3 g4, int .i64 g5] false]) fun j2 => asTup (some j2) fun j3 => PI.asBool j3[0]? fun j4 => asSl j3[1]? fun j5 j6 => PI.asInt .i64 j3[2]? fun j7 => bif j4 then some
 (tup [int .i64 (i64.wrap (1 + y)), int .i64 a4, sl b0 b1, sl b4 b5, sl c1 c2, sl D G, int .i64 g2, bool true, sl 1 [sl b0 b1], int .i64 (i64.wrap
 (1 + y)), sl A B, sl A7 A8, sl j5 j6, int .i64 j7]) else some (tup [int .i64 (i64.wrap (1 + y)), int .i64 a4, sl b0 b1, sl b4 b5, sl c1 c2, sl D G,
 int .i64 g2, bool false, sl 1 [sl b0 b1], int .i64 (i64.wrap (1 + y)), sl A B, sl A7 A8, sl j5 j6, int .i64 j7]))) (need (O.W 0 94 [] [ptr 0 0, sl 3 [int
 .i64 50, int .i64 20, int .i64 100]] [Ob.box 142 [sl b6 b7, int .i64 b8] false]) fun j8 => asTup (some j8) fun j9 => PI.asInt .i64 j9[0]? fun l0 => asSl j9[1]? fun l1 l2 =>
 PI.asInt .i64 j9[2]? fun l3 => bif decide (i64.wrap (1 + y) > 2) then need (O.W 0 40 [] [ptr 0 0, int .i64 2] [Ob.box 142 [sl l1 l2, int .i64 l3] false]) fun l4 => asTup
 (some l4) fun l5 => PI.asBool l5[0]? fun l6 => asSl l5[1]? fun l7 l8 => PI.asInt .i64 l5[2]? fun l9 => bif l6 then need (O.W 0 70 [] [ptr 0 0, int .i64 32] [Ob.box 142 [sl
 l7 l8, int .i64 l9] false]) fun n0 => asTup (some n0) fun n1 => asSl n1[0]? fun n2 n3 => asSl n1[1]? fun n4 n5 => PI.asInt .i64 n1[2]? fun n6 => need (O.W 0 40 [] [ptr
 0 0, int .i64 8] [Ob.box 142 [sl n4 n5, int .i64 n6] false]) fun n7 => asTup (some n7) fun n8 => PI.asBool n8[0]? fun n9 => asSl n8[1]? fun p0 p1 => PI.asInt .i64 n8[2]?
 fun p2 => bif n9 then some (tup [int .i64 (i64.wrap (1 + y)), int .i64 a4, sl b0 b1, sl b4 b5, sl c1 c2, sl D G, int .i64 l0, bool true, sl 3 [sl n2
 n3, sl 0 [], sl b0 b1], int .i64 (i64.wrap (i64.wrap (1 + y) - 2)), sl A B, sl A7 A8, sl p0 p1, int .i64 p2]) else some (tup [int .i64
 (i64.wrap (1 + y)), int .i64 a4, sl b0 b1, sl b4 b5, sl c1 c2, sl D G, int .i64 l0, bool false, sl 3 [sl n2 n3, sl 0 [], sl b0 b1], int .i64
 (i64.wrap (i64.wrap (1 + y) - 2)), sl A B, sl A7 A8, sl p0 p1, int .i64 p2]) else need (O.W 0 40 [] [ptr 0 0, int .i64 8] [Ob.box 142 [sl l7 l8, int
 .i64 l9] false]) fun p3 => asTup (some p3) fun p4 => PI.asBool p4[0]? fun p5 => asSl p4[1]? fun p6 p7 => PI.asInt .i64 p4[2]? fun p8 => bif p5 then some (tup [int .i64
 (i64.wrap (1 + y)), int .i64 a4, sl b0 b1, sl b4 b5, sl c1 c2, sl D G, int .i64 l0, bool true, sl 1 [sl b0 b1], int .i64 (i64.wrap (1 + y)), sl
 A B, sl A7 A8, sl p6 p7, int .i64 p8]) else some (tup [int .i64 (i64.wrap (1 + y)), int .i64 a4, sl b0 b1, sl b4 b5, sl c1 c2, sl D G, int .i64 l0,
 bool false, sl 1 [sl b0 b1], int .i64 (i64.wrap (1 + y)), sl A B, sl A7 A8, sl p6 p7, int .i64 p8]) else need (O.W 0 40 [] [ptr 0 0, int .i64 8] [Ob.box 142
 [sl l1 l2, int .i64 l3] false]) fun p9 => asTup (some p9) fun v0 => PI.asBool v0[0]? fun v1 => asSl v0[1]? fun v2 v3 => PI.asInt .i64 v0[2]? fun v4 => bif v1 then some
 (tup [int .i64 (i64.wrap (1 + y)), int .i64 a4, sl b0 b1, sl b4 b5, sl c1 c2, sl D G, int .i64 l0, bool true, sl 1 [sl b0 b1], int .i64 (i64.wrap
 (1 + y)), sl A B, sl A7 A8, sl v2 v3, int .i64 v4]) else some (tup [int .i64 (i64.wrap (1 + y)), int .i64 a4, sl b0 b1, sl b4 b5, sl c1 c2, sl D G,
 int .i64 l0, bool false, sl 1 [sl b0 b1], int .i64 (i64.wrap (1 + y)), sl A B, sl A7 A8, sl v2 v3, int .i64 v4]))
theorem E66l1 (A B D G H I J K L M N P Q R S U W X Y Z A0 A1 A2 A3 A4 A5 A6 A7 A8) {r : V} (h
 : T66l1 (orcE C) 0 A B D G H I J K L M N P Q R S U W X Y Z A0 A1 A2 A3 A4 A5 A6 A7 A8 = some r) : loopWE C 66 [] [Ob.box 142 [V.u, V.u] false] 0 [true,
 true, true, true, false, true] [] [(0, ptr 0 0), (2, ptr 1 0), (4, sl A B), (5, sl D G), (6, ref 9), (7, int .i64 H)] [Ob.box 142 [sl I J, int .i64 K] false, Ob.box 106 [int
 .i64 L, int .i64 M, ref 2, ref 3, ref 4, ref 5, int .i64 N, bool P, ref 6, int .i64 Q, ref 7, ref 8] false, Ob.row 5 R S false, Ob.row 5 U W false, Ob.row 5 X
 Y false, Ob.row 161 Z A0 false, Ob.nrow [] 22 A1 A2, Ob.nrow [] 22 A3 A4, Ob.nrow [] 22 A5 A6, Ob.row 22 A7 A8 false] = some r := ofX (j := 0) (F := fun s => T66l1 (orc C s.k) s.m
 A B D G H I J K L M N P Q R S U W X Y Z A0 A1 A2 A3 A4 A5 A6 A7 A8) (fs0 fun _ _ => by kernel_rfl) (by
  unfold T66l1
  repeat' first | (with_reducible first | intro _ | exact cC | apply cN cR | apply cN cQ | apply cT | apply cI | apply cM | apply cF | apply cB | apply cL | apply cO | apply cN cC | apply cW | exact cR | exact cQ) | exact cX0 gM) h
def T67l1 (O : Orc) (m : Nat) (A B D : Int) (G : Nat) (H : List V) (I : Int) (J : Nat) (K : List V) (L : Nat) (M : List V) : Option V := bif decide (D
 < A) then must (true && (J + 1).ble 140737488355328 && ((J + 1) * 24).ble 140737488355328) (need (O.R 0 137 [sl 1 [int .u8 (u8.wrap (i64.wrap (B + D)))]]) fun a => asTup
 (some a) fun b => asOsl b[0]? fun c d => need (O.R 0 68 [sl c (bareL d)]) fun e => asTup (some e) fun f => asOsl f[0]? fun g i => need (O.W 0 41 [] [ptr 0 0, int .i64 4] [Ob.box 142
 [sl G H, int .i64 I] false]) fun j => asTup (some j) fun l => PI.asInt .i64 l[0]? fun n => asSl l[1]? fun p v => PI.asInt .i64 l[2]? fun w => must (true && (L + 1).ble
 140737488355328 && ((L + 1) * 32).ble 140737488355328) (O.X 0 67 [] [Ob.box 142 [V.u, V.u] false] 0 [true, true, true, false, true] [] m [(0, ptr 0 0), (1, int .i64 A), (2, int .i64 B), (8,
 ref 1), (9, ref 2), (10, int .i64 (i64.wrap (D + 1)))] [Ob.box 142 [sl p v, int .i64 w] false, Ob.row 22 (J + 1) (K ++ [sl 1 [int .u8 (u8.wrap (i64.wrap
 (B + D)))]]) false, Ob.row 161 (L + 1) (M ++ [sl g i, int .i64 (i64.wrap (1 + n))]) false])) else some (tup [sl J K, sl L M, sl G H, int .i64 I])
theorem E67l1 (A B D G H I J K L M) {r : V} (h : T67l1 (orcE C) 0 A B D G H I J K L M
 = some r) : loopWE C 67 [] [Ob.box 142 [V.u, V.u] false] 0 [true, true, true, false, true] [] [(0, ptr 0 0), (1, int .i64 A), (2, int .i64 B), (8, ref 1), (9, ref 2), (10, int .i64 D)]
 [Ob.box 142 [sl G H, int .i64 I] false, Ob.row 22 J K false, Ob.row 161 L M false] = some r := ofX (j := 0) (F := fun s => T67l1 (orc C s.k) s.m A B D G H I J K L M)
 (fs0 fun _ _ => by kernel_rfl) (by
  unfold T67l1
  repeat' first | (with_reducible first | intro _ | exact cC | apply cN cR | apply cN cQ | apply cT | apply cI | apply cM | apply cF | apply cL | apply cO | apply cN cC | exact cR | exact cQ) | exact cX0 gM) h
def T68 (O : Orc) (A : Nat) (B : List V) : Option V := bif (↑A : Int) == 0 then need (O.R 0 138 [str { data := #[(110 : UInt8), (111 : UInt8), (110 : UInt8), (101 :
 UInt8)] }, sl 0 []]) fun a => asTup (some a) fun b => asOsl b[0]? fun c d => must (false || d.all flatV) (some (tup [osl c d])) else bif (↑A : Int) == 1 then must (inB 0 A) (must
 (decide (0 < B.length)) (asSl B[0]? fun e f => need (O.R 0 139 [sl e f]) fun g => asTup (some g) fun i => asOsl i[0]? fun j l => must (false || l.all flatV) (some (tup [osl j
 l])))) else need (O.R 0 140 [int .i64 (↑A : Int)]) fun n => asTup (some n) fun p => PI.asInt .i64 p[0]? fun v => must (decide (0 ≤ v) && decide (v ≤ (↑A : Int))) (must (decide (0 ≤
 v) && decide (v ≤ (↑A : Int))) (need (O.R 0 68 [sl (v.toNat - 0) (List.take ((v.toNat - 0) * 1) (List.drop 0 B))]) fun w => asTup (some w) fun x => asOsl x[0]? fun y z => need
 (O.R 0 68 [sl (A - v.toNat) (List.take ((A - v.toNat) * 1) (List.drop (v.toNat * 1) B))]) fun a0 => asTup (some a0) fun a1 => asOsl a1[0]? fun a2 a3 => need (O.R 0 141 [sl y z,
 sl a2 a3]) fun a4 => asTup (some a4) fun a5 => asOsl a5[0]? fun a6 a7 => must (false || a7.all flatV) (some (tup [osl a6 a7]))))
theorem E68 (A B) {r : V} (h : T68 (orcE C) A B = some r) : runE C 68 [sl A B] = some r := ofR (j := 1) (F := fun s => T68 (orc C s.k) A B) (fun _ => by
 kernel_rfl) (by
  unfold T68
  repeat' first | (with_reducible first | intro _ | exact cC | apply cN cR | apply cT | apply cI | apply cM | apply cF | apply cL | apply cO | apply cN cC | exact cR)) h
def T69 (O : Orc) (k : Nat) (A : Nat) (B : List V) : Option V := O.L 0 69 0 [true, true, false, true] [] k [(0, sl A B), (3, ref 0), (4, int .i64 0)] [Ob.row 22 0 []
 false]
theorem E69 (A B) {r : V} (h : T69 (orcE C) 0 A B = some r) : runE C 69 [sl A B] = some r := ofR (j := 1) (F := fun s => T69 (orc C s.k) s.k A B) (fun _ => by
 kernel_rfl) (by
  unfold T69
  repeat' first | with_reducible exact cC | exact cD0 gK) h
def T72 (O : Orc) (k : Nat) (A : Int) (B : Nat) (D : List V) (G : Int) : Option V := O.X 0 72 [] [Ob.box 142 [V.u, V.u] false] 0 [true, true, false, true] [] k [(0, ptr 0
 0), (1, int .i64 A), (5, ref 1), (6, int .i64 0)] [Ob.box 142 [sl B D, int .i64 G] false, Ob.row 2 0 [] false]
theorem E72 (A B D G) {r : V} (h : T72 (orcE C) 0 A B D G = some r) : runWE C 72 [] [ptr 0 0, int .i64 A] [Ob.box 142 [sl B D, int .i64 G]
 false] = some r := ofW (j := 1) (F := fun s => T72 (orc C s.k) s.k A B D G) (fun _ => by kernel_rfl) (by
  unfold T72
  repeat' first | with_reducible exact cC | exact cX0 gK) h
def T71 (O : Orc) (k : Nat) (A : Nat) (B : List V) (D : Nat) (G : List V) (H I J : Int) (K : Nat) (L : List V) (M : Nat) (N : List V) (P : Nat) (Q
 : List V) : Option V := need (O.R 0 144 [agg [int .i64 I, int .i64 J, sl K L, sl M N, sl P Q]]) fun a => asTup (some a) fun b => PI.asInt .i64 b[0]? fun c => PI.asInt .i64
 b[1]? fun d => asOsl b[2]? fun e f => asOsl b[3]? fun g i => asOsl b[4]? fun j l => need (O.R 0 83 [agg [int .i64 I, int .i64 J, sl K L, sl M N, sl P Q]]) fun n
 => asTup (some n) fun p => asSl p[0]? fun v w => O.L 0 71 0 [true, true, true, false, true] [] k [(0, sl A B), (1, sl D G), (2, int .i64 H), (8, ptr 0 0), (9, ptr 5 0), (10,
 sl v w), (11, int .i64 0)] [Ob.box 55 [int .i64 0, int .i64 0, ref 1, ref 2, ref 3, ref 4] false, Ob.row 5 0 [] false, Ob.row 5 0 [] false, Ob.row 5 0 [] false, Ob.nrow [] 170 0
 [], Ob.box 55 [int .i64 c, int .i64 d, ref 6, ref 7, ref 8, ref 9] false, Ob.row 5 e f false, Ob.row 5 g i false, Ob.row 5 j l false, Ob.nrow [] 170 0 []]
theorem E71 (A B D G H I J K L M N P Q) {r : V} (h : T71 (orcE C) 0 A B D G H I J K L M N P Q = some r) : runE C 71 [sl A B, sl D G, int .i64 H, agg [int .i64 I, int .i64 J, sl K L, sl M N, sl P Q]] = some r :=
 ofR (j := 1) (F := fun s => T71 (orc C s.k) s.k A B D G H I J K L M N P Q) (fun _ => by kernel_rfl) (by
  unfold T71
  repeat' first | (with_reducible first | intro _ | exact cC | apply cN cR | apply cT | apply cI | apply cL | apply cO | apply cN cC | exact cR) | exact cD0 gK) h
def T163 (O : Orc) (A : Nat) (B : List V) (D : Nat) (G : List V) (H : Int) : Option V := must (decide (B.length = A * 2)) (must (true && (0 + A).ble
 140737488355328 && ((0 + A) * 32).ble 140737488355328) (need (O.W 0 41 [] [ptr 0 0, int .i64 (↑(0 + A) : Int)] [Ob.box 142 [sl D G, int .i64 H] false]) fun a => asTup (some a) fun b =>
 PI.asInt .i64 b[0]? fun c => asSl b[1]? fun d e => PI.asInt .i64 b[2]? fun f => need (O.W 0 41 [] [ptr 0 0, int .i64 5] [Ob.box 142 [sl d e, int .i64 f] false]) fun g => asTup (some
 g) fun i => PI.asInt .i64 i[0]? fun j => asSl i[1]? fun l n => PI.asInt .i64 i[2]? fun p => bif j == 0 then need (O.W 0 94 [] [ptr 0 0, sl 2 [int .i64 32, int .i64 31]] [Ob.box
 142 [sl l n, int .i64 p] false]) fun v => asTup (some v) fun w => PI.asInt .i64 w[0]? fun x => asSl w[1]? fun y z => PI.asInt .i64 w[2]? fun a0 => need (O.W 0 70 [] [ptr
 0 0, int .i64 x] [Ob.box 142 [sl y z, int .i64 a0] false]) fun a1 => asTup (some a1) fun a2 => asSl a2[0]? fun a3 a4 => asSl a2[1]? fun a5 a6 => PI.asInt .i64 a2[2]? fun a7 =>
 must (inB c (0 + A)) (must ([sl a3 a4].length.beq 1 && (c.toNat * 2 + 0 + [sl a3 a4].length).ble B.length) (some (tup [sl (0 + A) (splice B (c.toNat * 2 + 0) [sl a3 a4]), sl
 a5 a6, int .i64 a7]))) else bif j == 1 then need (O.W 0 94 [] [ptr 0 0, sl 3 [int .i64 0, int .i64 1000, int .i64 1001]] [Ob.box 142 [sl l n, int .i64 p] false]) fun a8 =>
 asTup (some a8) fun a9 => PI.asInt .i64 a9[0]? fun b0 => asSl a9[1]? fun b1 b2 => PI.asInt .i64 a9[2]? fun b3 => must (inB c (0 + A)) (must ([int .i64 b0].length.beq 1 && (c.toNat * 2 +
 1 + [int .i64 b0].length).ble B.length) (some (tup [sl (0 + A) (splice B (c.toNat * 2 + 1) [int .i64 b0]), sl b1 b2, int .i64 b3]))) else bif j == 2 then must (inB c (0 + A))
 (asSl B[c.toNat * 2]? fun b4 b5 => PI.asInt .i64 B[c.toNat * 2 + 1]? fun b6 => must (true && (0 + A + 1).ble 140737488355328 && ((0 + A + 1) * 32).ble 140737488355328) (some (tup [sl (0 +
 A + 1) (B ++ [sl b4 b5, int .i64 b6]), sl l n, int .i64 p]))) else bif j == 3 then some (tup [sl 0 [], sl l n, int .i64 p]) else bif j == 4 then some (tup [sl 6
 [sl 0 [], int .i64 0, sl 0 [], int .i64 0, sl 0 [], int .i64 0, sl 0 [], int .i64 0, sl 0 [], int .i64 0, sl 0 [], int .i64 0], sl l n, int .i64 p]) else some (tup
 [sl (0 + A) B, sl l n, int .i64 p])))
theorem E163 (A B D G H) {r : V} (h : T163 (orcE C) A B D G H = some r) : runWE C 163 [] [ptr 0 0, sl A B] [Ob.box 142 [sl D G,
 int .i64 H] false] = some r := ofW (j := 1) (F := fun s => T163 (orc C s.k) A B D G H) (fun _ => by kernel_rfl) (by
  unfold T163
  repeat' first | (with_reducible first | intro _ | exact cC | apply cN cQ | apply cT | apply cI | apply cM | apply cF | apply cL | apply cN cC | exact cQ)) h
def T86 (O : Orc) (A B : Int) (D : Nat) (G : List V) (H : Nat) (I : List V) (J : Nat) (K : List V) (L : Nat) (M : List V) (N : Int) (P : Bool) (Q : Nat) (R : List V) (S : Int) : Option V := need (O.R 0 144 [agg [int .i64 A, int .i64 B, sl D G, sl H I, sl J K]]) fun a => asTup (some a) fun b => PI.asInt .i64
 b[0]? fun c => PI.asInt .i64 b[1]? fun d => asOsl b[2]? fun e f => asOsl b[3]? fun g i => asOsl b[4]? fun j l => need (O.R 0 158 [sl L M]) fun n => asTup (some n) fun p =>
 asOsl p[0]? fun v w => need (O.R 0 159 [sl Q R]) fun x => asTup (some x) fun y => asOsl y[0]? fun z a0 => must (false || f.all flatV) (must (false || i.all flatV) (must (false
 || l.all flatV) (some (tup [int .i64 c, int .i64 d, osl e f, osl g i, osl j l, osl v w, int .i64 N, bool P, osl z a0, int .i64 S]))))
theorem E86 (A B D G H I J K L M N P Q R S) {r
 : V} (h : T86 (orcE C) A B D G H I J K L M N P Q R S = some r) : runE C 86 [agg [int .i64 A, int .i64 B, sl D G, sl H I, sl J K, sl L M, int
 .i64 N, bool P, sl Q R, int .i64 S]] = some r := ofR (j := 1) (F := fun s => T86 (orc C s.k) A B D G H I J K L M N P Q R S) (fun _ => by kernel_rfl) (by
  unfold T86
  repeat' first | (with_reducible first | intro _ | exact cC | apply cN cR | apply cT | apply cI | apply cM | apply cO | apply cN cC | exact cR)) h
def T164 (O : Orc) (A B : Int) (D : Nat) (G : List V) (H : Nat) (I : List V) (J : Nat) (K : List V) (L : Nat) (M : List V) (N : Int) : Option V :=
 need (O.R 0 144 [agg [int .i64 A, int .i64 B, sl D G, sl H I, sl J K]]) fun a => asTup (some a) fun b => PI.asInt .i64 b[0]? fun c => PI.asInt .i64 b[1]? fun d => asOsl
 b[2]? fun e f => asOsl b[3]? fun g i => asOsl b[4]? fun j l => need (O.W 0 41 [] [ptr 0 0, int .i64 6] [Ob.box 142 [sl L M, int .i64 N] false]) fun n => asTup (some n) fun
 p => PI.asInt .i64 p[0]? fun v => asSl p[1]? fun w x => PI.asInt .i64 p[2]? fun y => bif v == 0 then need (O.W 0 94 [] [ptr 0 0, sl 3 [int .i64 0, int .i64 1000000, int
 .i64 1000001]] [Ob.box 142 [sl w x, int .i64 y] false]) fun z => asTup (some z) fun a0 => PI.asInt .i64 a0[0]? fun a1 => asSl a0[1]? fun a2 a3 => PI.asInt .i64 a0[2]? fun a4 =>
 some (tup [int .i64 a1, int .i64 d, sl e f, sl g i, sl j l, sl a2 a3, int .i64 a4]) else bif v == 1 then need (O.W 0 94 [] [ptr 0 0, sl 3 [int .i64 (-1), int .i64
 1099511627776, int .i64 1099511627777]] [Ob.box 142 [sl w x, int .i64 y] false]) fun a5 => asTup (some a5) fun a6 => PI.asInt .i64 a6[0]? fun a7 => asSl a6[1]? fun a8 a9 =>
 PI.asInt .i64 a6[2]? fun b0 => some (tup [int .i64 c, int .i64 a7, sl e f, sl g i, sl j l, sl a8 a9, int .i64 b0]) else bif v == 2 then need (O.W 0 94 [] [ptr 0 0,
 sl 2 [int .i64 32, int .i64 31]] [Ob.box 142 [sl w x, int .i64 y] false]) fun b1 => asTup (some b1) fun b2 => PI.asInt .i64 b2[0]? fun b3 => asSl b2[1]? fun b4 b5 => PI.asInt
 .i64 b2[2]? fun b6 => need (O.W 0 70 [] [ptr 0 0, int .i64 b3] [Ob.box 142 [sl b4 b5, int .i64 b6] false]) fun b7 => asTup (some b7) fun b8 => asSl b8[0]? fun b9 c0 => asSl b8[1]?
 fun c1 c2 => PI.asInt .i64 b8[2]? fun c3 => some (tup [int .i64 c, int .i64 d, sl b9 c0, sl g i, sl j l, sl c1 c2, int .i64 c3]) else bif v == 3 then need (O.W 0 94
 [] [ptr 0 0, sl 2 [int .i64 32, int .i64 33]] [Ob.box 142 [sl w x, int .i64 y] false]) fun c4 => asTup (some c4) fun c5 => PI.asInt .i64 c5[0]? fun c6 => asSl c5[1]? fun c7
 c8 => PI.asInt .i64 c5[2]? fun c9 => need (O.W 0 70 [] [ptr 0 0, int .i64 c6] [Ob.box 142 [sl c7 c8, int .i64 c9] false]) fun d0 => asTup (some d0) fun d1 => asSl d1[0]? fun d2 d3
 => asSl d1[1]? fun d4 d5 => PI.asInt .i64 d1[2]? fun d6 => some (tup [int .i64 c, int .i64 d, sl e f, sl d2 d3, sl j l, sl d4 d5, int .i64 d6]) else bif v == 4 then
 need (O.W 0 94 [] [ptr 0 0, sl 2 [int .i64 32, int .i64 0]] [Ob.box 142 [sl w x, int .i64 y] false]) fun d7 => asTup (some d7) fun d8 => PI.asInt .i64 d8[0]? fun d9 => asSl
 d8[1]? fun e0 e1 => PI.asInt .i64 d8[2]? fun e2 => need (O.W 0 70 [] [ptr 0 0, int .i64 d9] [Ob.box 142 [sl e0 e1, int .i64 e2] false]) fun e3 => asTup (some e3) fun e4 => asSl
 e4[0]? fun e5 e6 => asSl e4[1]? fun e7 e8 => PI.asInt .i64 e4[2]? fun e9 => some (tup [int .i64 c, int .i64 d, sl e f, sl g i, sl e5 e6, sl e7 e8, int .i64 e9]) else
 some (tup [int .i64 c, int .i64 d, sl e f, sl g i, sl j l, sl w x, int .i64 y])
theorem E164 (A B D G H I J K L M N) {r : V} (h : T164 (orcE C) A B D G H I
 J K L M N = some r) : runWE C 164 [] [ptr 0 0, agg [int .i64 A, int .i64 B, sl D G, sl H I, sl J K]] [Ob.box 142 [sl L M, int .i64 N] false] = some r := ofW (j :=
 1) (F := fun s => T164 (orc C s.k) A B D G H I J K L M N) (fun _ => by kernel_rfl) (by
  unfold T164
  repeat' first | (with_reducible first | intro _ | exact cC | apply cN cR | apply cN cQ | apply cT | apply cI | apply cF | apply cL | apply cO | apply cN cC | exact cR | exact cQ)) h
def T70 (O : Orc) (k : Nat) (A : Int) (B : Nat) (D : List V) (G : Int) : Option V := O.X 0 70 [] [Ob.box 142 [V.u, V.u] false] 0 [true, true, false] [] k [(0, ptr 0 0), (1,
 int .i64 A), (5, ref 1)] [Ob.box 142 [sl B D, int .i64 G] false, Ob.row 5 0 [] false]
theorem E70 (A B D G) {r : V} (h : T70 (orcE C) 0 A B D G = some r) : runWE C 70 [] [ptr 0 0, int .i64 A] [Ob.box 142 [sl B D, int .i64 G]
 false] = some r := ofW (j := 1) (F := fun s => T70 (orc C s.k) s.k A B D G) (fun _ => by kernel_rfl) (by
  unfold T70
  repeat' first | with_reducible exact cC | exact cX0 gK) h
def T161 (O : Orc) (A : Nat) (B : List V) : Option V := bif A.beq (OfNat.ofNat 0) then both (some (tup [osl 0 []])) (must (decide (B.length = A * 1)) (must
 (true && (0 + A).ble 140737488355328 && ((0 + A) * 24).ble 140737488355328) (some (tup [osl (0 + A) B])))) else must (decide (B.length = A * 1)) (must (true && (0 + A).ble 140737488355328
 && ((0 + A) * 24).ble 140737488355328) (some (tup [osl (0 + A) B])))
theorem E161 (A B) {r : V} (h : T161 (orcE C) A B = some r) : runE C 161 [sl A B] = some r := ofR (j := 1) (F := fun s => T161 (orc C s.k) A B) (fun _ =>
 by kernel_rfl) (by
  unfold T161
  repeat' first | (with_reducible first | intro _ | exact cC | apply cM | apply cF | apply cW)) h
def T91l1 (O : Orc) (m : Nat) (A B D G : Int) (H : Nat) (I : List V) (J : Nat) (K : List V) (L : Nat) (M : List V) (N P : Int) (Q
 : Int) (R : Int) (S : Bool) (U : Int) (W : Nat) (X : List V) (Y : Nat) (Z : List V) (A0 : Nat) (A1 : List V) (A2 : Nat) (A3 : List V) (A4 : Nat) (A5 : List V) (A6 : Int) (A7 :
 Int) (A8 : Nat) (A9 : List V) (B0 : Nat) (B1 : List V) (B2 : Nat) (B3 : List V) (B4 : Nat) (B5 : List V) (B6 : Int) (B7 : Bool) (B8 : Int) (B9 : Nat) (D0 : List V) : Option V := bif
 decide (B < A) then must (true && (B9 + 1).ble 140737488355328 && ((B9 + 1) * 24).ble 140737488355328) (O.L 0 91 0 [true, true, true, true, true, true, false, true] [] m [(4, ptr 0 0), (6, ptr
 1 0), (8, ptr 7 0), (51, int .i64 A), (52, int .i64 (i64.wrap (B + 1)))] [Ob.box 48 [int .i64 D, int .i64 G, sl H I, sl J K, sl L M] false, Ob.box 59 [int .i64
 N, int .i64 P, int .i64 Q, ref 2, ref 3, ref 4, ref 5, int .i64 R, bool S, ref 6, int .i64 U] false, Ob.row 5 W X false, Ob.row 5 Y Z false, Ob.row 5 A0 A1
 false, Ob.row 161 A2 A3 false, Ob.nrow [] 22 A4 A5, Ob.box 52 [int .i64 A6, int .i64 A7, sl A8 A9, sl B0 B1, sl B2 B3, sl B4 B5, int .i64 B6, bool B7, ref 8, int
 .i64 B8] false, Ob.row 22 (B9 + 1) (D0 ++ [sl 0 []]) false]) else must (true && (B9 + 1).ble 140737488355328 && ((B9 + 1) * 24).ble 140737488355328) (bif decide (i64.wrap ((↑(B9 + 1) :
 Int) - 24) > 0) then both (must (decide (0 ≤ i64.wrap ((↑(B9 + 1) : Int) - 24)) && decide (i64.wrap ((↑(B9 + 1) : Int) - 24) ≤ (↑(B9 + 1) : Int))) (need (O.R 0 79 [agg [int .i64
 A6, int .i64 A7, sl A8 A9, sl B0 B1, sl B2 B3, sl B4 B5, int .i64 B6, bool B7, sl (B9 + 1 - (i64.wrap ((↑(B9 + 1) : Int) - 24)).toNat) (List.take ((B9 + 1 -
 (i64.wrap ((↑(B9 + 1) : Int) - 24)).toNat) * 1) (List.drop ((i64.wrap ((↑(B9 + 1) : Int) - 24)).toNat * 1) (D0 ++ [sl H I]))), int .i64 (i64.wrap (B8 +
 i64.wrap ((↑(B9 + 1) : Int) - 24)))]]) fun a => asTup (some a) fun b => PI.asInt .i64 b[0]? fun c => PI.asInt .i64 b[1]? fun d => asOsl b[2]? fun e f => asOsl b[3]? fun g i =>
 asOsl b[4]? fun j l => asOsl b[5]? fun n p => PI.asInt .i64 b[6]? fun v => PI.asBool b[7]? fun w => asOsl b[8]? fun x y => PI.asInt .i64 b[9]? fun z => must (false || f.all
 flatV) (must (false || i.all flatV) (must (false || l.all flatV) (some (tup [int .i64 0, int .i64 c, int .i64 d, osl e f, osl g i, osl j l, osl n p, int .i64 v,
 bool w, osl x y, int .i64 z])))))) (must (decide (0 ≤ i64.wrap ((↑(B9 + 1) : Int) - 24)) && decide (i64.wrap ((↑(B9 + 1) : Int) - 24) ≤ (↑(B9 + 1) : Int))) (need (O.R
 0 79 [agg [int .i64 A6, int .i64 A7, sl A8 A9, sl B0 B1, sl B2 B3, sl B4 B5, int .i64 B6, bool B7, sl (B9 + 1 - (i64.wrap ((↑(B9 + 1) : Int) - 24)).toNat)
 (List.take ((B9 + 1 - (i64.wrap ((↑(B9 + 1) : Int) - 24)).toNat) * 1) (List.drop ((i64.wrap ((↑(B9 + 1) : Int) - 24)).toNat * 1) (D0 ++ [sl H I]))), int .i64
 (i64.wrap (B8 + i64.wrap ((↑(B9 + 1) : Int) - 24)))]]) fun a0 => asTup (some a0) fun a1 => PI.asInt .i64 a1[0]? fun a2 => PI.asInt .i64 a1[1]? fun a3 => asOsl a1[2]? fun a4
 a5 => asOsl a1[3]? fun a6 a7 => asOsl a1[4]? fun a8 a9 => asOsl a1[5]? fun b0 b1 => PI.asInt .i64 a1[6]? fun b2 => PI.asBool a1[7]? fun b3 => asOsl a1[8]? fun b4 b5 => PI.asInt .i64
 a1[9]? fun b6 => must (false || a5.all flatV) (must (false || a7.all flatV) (must (false || a9.all flatV) (some (tup [int .i64 0, int .i64 a2, int .i64 a3, osl a4 a5, osl a6 a7,
 osl a8 a9, osl b0 b1, int .i64 b2, bool b3, osl b4 b5, int .i64 b6])))))) else need (O.R 0 79 [agg [int .i64 A6, int .i64 A7, sl A8 A9, sl B0 B1, sl B2 B3,
 sl B4 B5, int .i64 B6, bool B7, sl (B9 + 1) (D0 ++ [sl H I]), int .i64 B8]]) fun b7 => asTup (some b7) fun b8 => PI.asInt .i64 b8[0]? fun b9 => PI.asInt .i64 b8[1]? fun c0
 => asOsl b8[2]? fun c1 c2 => asOsl b8[3]? fun c3 c4 => asOsl b8[4]? fun c5 c6 => asOsl b8[5]? fun c7 c8 => PI.asInt .i64 b8[6]? fun c9 => PI.asBool b8[7]? fun d0 => asOsl b8[8]? fun
 d1 d2 => PI.asInt .i64 b8[9]? fun d3 => must (false || c2.all flatV) (must (false || c4.all flatV) (must (false || c6.all flatV) (some (tup [int .i64 0, int .i64 b9, int .i64 c0,
 osl c1 c2, osl c3 c4, osl c5 c6, osl c7 c8, int .i64 c9, bool d0, osl d1 d2, int .i64 d3])))))
theorem E91l1 (A B D G H I J K L M N P Q R S) (U :
 Int) (W : Nat) (X : List V) (Y : Nat) (Z : List V) (A0 : Nat) (A1 : List V) (A2 : Nat) (A3 : List V) (A4 : Nat) (A5 : List V) (A6 : Int) (A7 : Int) (A8 : Nat) (A9 : List V) (B0 :
 Nat) (B1 : List V) (B2 : Nat) (B3 : List V) (B4 : Nat) (B5 : List V) (B6 : Int) (B7 : Bool) (B8 : Int) (B9 : Nat) (D0 : List V) {r : V} (h : T91l1 (orcE C) 0 A B D G H I J K L
 M N P Q R S U W X Y Z A0 A1 A2 A3 A4 A5 A6 A7 A8 A9 B0 B1 B2 B3 B4 B5 B6 B7 B8 B9 D0 = some r) : loopE C 91 0 [true, true, true, true, true, true, false,
 true] [] [(4, ptr 0 0), (6, ptr 1 0), (8, ptr 7 0), (51, int .i64 A), (52, int .i64 B)] [Ob.box 48 [int .i64 D, int .i64 G, sl H I, sl J K, sl L M] false, Ob.box 59
 [int .i64 N, int .i64 P, int .i64 Q, ref 2, ref 3, ref 4, ref 5, int .i64 R, bool S, ref 6, int .i64 U] false, Ob.row 5 W X false, Ob.row 5 Y Z false, Ob.row
 5 A0 A1 false, Ob.row 161 A2 A3 false, Ob.nrow [] 22 A4 A5, Ob.box 52 [int .i64 A6, int .i64 A7, sl A8 A9, sl B0 B1, sl B2 B3, sl B4 B5, int .i64 B6, bool B7, ref
 8, int .i64 B8] false, Ob.row 22 B9 D0 false] = some r := ofL (j := 0) (F := fun s => T91l1 (orc C s.k) s.m A B D G H I J K L M N P Q R S U W X Y Z A0 A1
 A2 A3 A4 A5 A6 A7 A8 A9 B0 B1 B2 B3 B4 B5 B6 B7 B8 B9 D0) (fs0 fun _ _ => by kernel_rfl) (by
  unfold T91l1
  repeat' first | (with_reducible first | intro _ | exact cC | apply cN cR | apply cT | apply cI | apply cM | apply cF | apply cB | apply cO | apply cN cC | apply cW | exact cR) | exact cD0 gM) h
def T148 (O : Orc) (k : Nat) (A : Nat) (B : List V) (D : Nat) (G : List V) (H I : Int) (J : Nat) (K : List V) (L : Nat) (M : List V) (N : Nat) (P : List V) (Q : Nat) (R : List V) : Option V := O.L 0 148 0 [true, true, false, true] [] k [(0, sl A B), (1, sl D G), (7, int .i64 0), (12, sl Q R), (13, int .i64 (↑Q : Int)), (14, int
 .i64 0)] []
theorem E148 (A B D G H I J K L M N P Q R) {r : V} (h
 : T148 (orcE C) 0 A B D G H I J K L M N P Q R = some r) : runE C 148 [sl A B, sl D G, agg [int .i64 H, int .i64 I, sl J K, sl L M, sl N P, sl
 Q R]] = some r := ofR (j := 1) (F := fun s => T148 (orc C s.k) s.k A B D G H I J K L M N P Q R) (fun _ => by kernel_rfl) (by
  unfold T148
  repeat' first | with_reducible exact cC | exact cD0 gK) h
def T96 (O : Orc) (A B : Int) (D : Nat) (G : List V) (H : Nat) (I : List V) (J : Nat) (K : List V) : Option V := bif (↑D : Int) != 32 then some (tup
 [int .i64 1]) else bif (↑H : Int) != 32 then some (tup [int .i64 1]) else bif (↑J : Int) != 32 then some (tup [int .i64 1]) else need (O.R 0 98 [int .i64 A, int .i64 1, int .i64
 1000000]) fun a => asTup (some a) fun b => PI.asBool b[0]? fun c => bif !c then some (tup [int .i64 3]) else need (O.R 0 98 [int .i64 B, int .i64 0, int .i64 1099511627776]) fun d =>
 asTup (some d) fun e => PI.asBool e[0]? fun f => bif !f then some (tup [int .i64 3]) else some (tup [int .i64 0])
theorem E96 (A B D G H I J K) {r : V} (h : T96 (orcE C) A B D G H I J K = some r) : runE C 96 [agg
 [int .i64 A, int .i64 B, sl D G, sl H I, sl J K]] = some r := ofR (j := 1) (F := fun s => T96 (orc C s.k) A B D G H I J K) (fun _ => by kernel_rfl) (by
  unfold T96
  repeat' first | (with_reducible first | intro _ | exact cC | apply cN cR | apply cT | apply cF | apply cB | apply cN cC | exact cR)) h
def T97 (O : Orc) (k : Nat) (A : Nat) (B : List V) : Option V := bif (↑A : Int) == 0 then some (tup [int .i64 4]) else bif decide ((↑A : Int) > 5) then some (tup [int
 .i64 2]) else O.L 0 97 0 [true, true, true, false, true] [] k [(0, sl A B), (3, int .i64 0)] []
theorem E97 (A B) {r : V} (h : T97 (orcE C) 0 A B = some r) : runE C 97 [sl A B] = some r := ofR (j := 1) (F := fun s => T97 (orc C s.k) s.k A B) (fun _ => by
 kernel_rfl) (by
  unfold T97
  repeat' first | (with_reducible first | intro _ | exact cC | apply cF) | exact cD0 gK) h
def T82 (O : Orc) (A : Nat) (B : List V) (D : Nat) (G : List V) : Option V := need (O.R 0 154 [sl A B, sl D G]) fun a => asTup (some a) fun b => PI.asInt
 .i64 b[0]? fun c => some (tup [bool (c == 0)])
theorem E82 (A B D G) {r : V} (h : T82 (orcE C) A B D G = some r) : runE C 82 [sl A B, sl D G] = some r := ofR (j := 1) (F := fun s => T82 (orc C s.k) A B D G) (fun _ => by kernel_rfl) (by
  unfold T82
  repeat' first | (with_reducible first | intro _ | exact cC | apply cN cR | apply cT | apply cI | apply cN cC | exact cR)) h
def T98 (O : Orc) (A B D : Int) : Option V := bif decide (A ≥ B) then some (tup [bool (decide (A ≤ D))]) else some (tup [bool false])
theorem E98 (A B D) {r : V} (h : T98 (orcE C) A B D = some r) : runE C 98 [int .i64 A, int .i64 B, int .i64 D] = some r := ofR (j := 1) (F := fun s => T98 (orc C s.k) A B D) (fun _ => by kernel_rfl) (by
  unfold T98
  repeat' first | (with_reducible first | intro _ | exact cC | apply cF)) h
def T29l1 (O : Orc) (m : Nat) (A B D G : Int) (H : Nat) (I : List V) (J : Nat) (K : List V) (L : Nat) (M : List V) (N : Nat) (P : List V) (Q : Int) (R : Bool) (S : Nat) (U : List V) (W : Int) : Option V := bif decide (B < A) then must (inB B S) (must (decide (B.toNat * 1 < U.length)) (asSl U[B.toNat * 1]? fun a b
 => bif (↑a : Int) != 32 then must (inB B S) (must (decide (B.toNat * 1 < U.length)) (asSl U[B.toNat * 1]? fun c d => bif (↑c : Int) != 0 then some (tup [int .i64 1]) else O.L 0 29 0
 [true, true, true, true, true, true, true, true, false, true] [] m [(1, ptr 0 0), (5, int .i64 A), (6, int .i64 (i64.wrap (B + 1)))] [Ob.box 52 [int .i64 D, int .i64 G, sl H
 I, sl J K, sl L M, sl N P, int .i64 Q, bool R, sl S U, int .i64 W] false])) else O.L 0 29 0 [true, true, true, true, true, true, true, true, false, true] [] m [(1,
 ptr 0 0), (5, int .i64 A), (6, int .i64 (i64.wrap (B + 1)))] [Ob.box 52 [int .i64 D, int .i64 G, sl H I, sl J K, sl L M, sl N P, int .i64 Q, bool R,
 sl S U, int .i64 W] false])) else must (inB (i64.wrap (A - 1)) S) (must (decide ((i64.wrap (A - 1)).toNat * 1 < U.length)) (asSl U[(i64.wrap (A - 1)).toNat *
 1]? fun e f => need (O.R 0 82 [sl e f, sl H I]) fun g => asTup (some g) fun i => PI.asBool i[0]? fun j => bif !j then some (tup [int .i64 1]) else some (tup [int .i64 0])))
theorem E29l1 (A B D G H I J K L M N P Q R S U W) {r : V} (h : T29l1 (orcE C) 0 A B D G H I J K L M N P Q R S U W = some r) : loopE C 29 0 [true, true, true, true, true, true, true, true,
 false, true] [] [(1, ptr 0 0), (5, int .i64 A), (6, int .i64 B)] [Ob.box 52 [int .i64 D, int .i64 G, sl H I, sl J K, sl L M, sl N P, int .i64 Q, bool R, sl
 S U, int .i64 W] false] = some r := ofL (j := 0) (F := fun s => T29l1 (orc C s.k) s.m A B D G H I J K L M N P Q R S U W) (fs0 fun _ _ => by kernel_rfl) (by
  unfold T29l1
  repeat' first | (with_reducible first | intro _ | exact cC | apply cN cR | apply cT | apply cM | apply cF | apply cB | apply cL | apply cN cC | exact cR) | exact cD0 gM) h
def T83 (O : Orc) (A B : Int) (D : Nat) (G : List V) (H : Nat) (I : List V) (J : Nat) (K : List V) : Option V := need (O.R 0 96 [agg [int .i64 A,
 int .i64 B, sl D G, sl H I, sl J K]]) fun a => asTup (some a) fun b => PI.asInt .i64 b[0]? fun c => bif c != 0 then some (tup [sl 0 []]) else need (O.R 0 142 [int .i64 A])
 fun d => asTup (some d) fun e => asSl e[0]? fun f g => need (O.R 0 142 [int .i64 B]) fun i => asTup (some i) fun j => asSl j[0]? fun l n => need (O.R 0 143 [sl 5 [sl f g, sl
 l n, sl D G, sl H I, sl J K]]) fun p => asTup (some p) fun v => asOsl v[0]? fun w x => need (O.R 0 138 [str { data := #[(98 : UInt8), (102 : UInt8), (116 : UInt8)] },
 sl w x]) fun y => asTup (some y) fun z => asOsl z[0]? fun a0 a1 => some (tup [sl a0 a1])
theorem E83 (A B D G H I J K) {r : V} (h : T83 (orcE C) A B D G H I J K = some r) : runE C 83 [agg
 [int .i64 A, int .i64 B, sl D G, sl H I, sl J K]] = some r := ofR (j := 1) (F := fun s => T83 (orc C s.k) A B D G H I J K) (fun _ => by kernel_rfl) (by
  unfold T83
  repeat' first | (with_reducible first | intro _ | exact cC | apply cN cR | apply cT | apply cI | apply cF | apply cL | apply cO | apply cN cC | exact cR)) h
def T81l1 (O : Orc) (m : Nat) (A : Nat) (B : List V) (D : Nat) (G : List V) (H I J : Int) (K : Nat) (L : List V) (M : Nat) (N : List V) (P : Nat) (Q : List V) (R : Nat) (S : List V) : Option V := bif decide (H < (↑R : Int)) then must (inB H R) (PI.asInt .i64 S[H.toNat * 6]? fun a => PI.asInt .i64 S[H.toNat * 6 + 1]? fun b =>
 asSl S[H.toNat * 6 + 1 + 1]? fun c d => PI.asInt .i64 S[H.toNat * 6 + 1 + 1 + 1]? fun e => PI.asInt .i64 S[H.toNat * 6 + 1 + 1 + 1 + 1]? fun f => asSl S[H.toNat * 6 + 1 + 1 + 1 + 1 +
 1]? fun g i => need (O.R 0 98 [int .i64 a, int .i64 0, int .i64 (i64.wrap ((↑A : Int) - 1))]) fun j => asTup (some j) fun l => PI.asBool l[0]? fun n => bif !n then some
 (tup [int .i64 3]) else bif decide (H > 0) then must (inB (i64.wrap (H - 1)) R) (PI.asInt .i64 S[(i64.wrap (H - 1)).toNat * 6 + 0]? fun p => bif decide (a ≤ p) then
 some (tup [int .i64 3]) else must (inB a A) (must (decide (a.toNat * 2 + 0 < B.length)) (asSl B[a.toNat * 2 + 0]? fun v w => need (O.R 0 153 [sl v w, sl D G, agg [int .i64
 b, sl c d, int .i64 e, int .i64 f, sl g i]]) fun x => asTup (some x) fun y => PI.asBool y[0]? fun z => bif !z then some (tup [int .i64 6]) else O.L 0 81 0 [true, true,
 true, true, true, true, false, true] [] m [(0, sl A B), (3, ptr 0 0), (7, sl D G), (8, int .i64 (i64.wrap (H + 1)))] [Ob.box 55 [int .i64 I, int .i64 J, sl K L, sl M
 N, sl P Q, sl R S] false]))) else must (inB a A) (must (decide (a.toNat * 2 + 0 < B.length)) (asSl B[a.toNat * 2 + 0]? fun a0 a1 => need (O.R 0 153 [sl a0 a1, sl D G,
 agg [int .i64 b, sl c d, int .i64 e, int .i64 f, sl g i]]) fun a2 => asTup (some a2) fun a3 => PI.asBool a3[0]? fun a4 => bif !a4 then some (tup [int .i64 6]) else O.L 0
 81 0 [true, true, true, true, true, true, false, true] [] m [(0, sl A B), (3, ptr 0 0), (7, sl D G), (8, int .i64 (i64.wrap (H + 1)))] [Ob.box 55 [int .i64 I, int .i64 J,
 sl K L, sl M N, sl P Q, sl R S] false]))) else some (tup [int .i64 0])
theorem E81l1 (A B D G H I J K L M N P Q R S) {r : V} (h : T81l1 (orcE C) 0 A B D G H I J K L M N P Q R S = some r) : loopE C 81 0 [true, true, true, true, true, true, false, true] [] [(0, sl A B), (3, ptr 0
 0), (7, sl D G), (8, int .i64 H)] [Ob.box 55 [int .i64 I, int .i64 J, sl K L, sl M N, sl P Q, sl R S] false] = some r := ofL (j := 0) (F := fun s => T81l1 (orc C
 s.k) s.m A B D G H I J K L M N P Q R S) (fs0 fun _ _ => by kernel_rfl) (by
  unfold T81l1
  repeat' first | (with_reducible first | intro _ | exact cC | apply cN cR | apply cT | apply cI | apply cM | apply cF | apply cB | apply cL | apply cN cC | exact cR) | exact cD0 gM) h
def T155 (O : Orc) (k : Nat) (A : Nat) (B : List V) (D G : Int) (H : Nat) (I : List V) (J : Nat) (K : List V) (L : Nat) (M : List V) (N : Nat) (P : List V) : Option V := O.L 0 155 0 [true, true, false, true] [] k [(0, sl A B), (3, ptr 0 0), (5, int .i64 0), (6, int .i64 0)] [Ob.box 55 [int .i64 D, int .i64 G, sl H I, sl J K, sl
 L M, sl N P] false]
theorem E155 (A B D G H I J K L M N P) {r : V} (h : T155 (orcE C) 0 A
 B D G H I J K L M N P = some r) : runE C 155 [sl A B, agg [int .i64 D, int .i64 G, sl H I, sl J K, sl L M, sl N P]] = some r := ofR (j := 1) (F := fun s =>
 T155 (orc C s.k) s.k A B D G H I J K L M N P) (fun _ => by kernel_rfl) (by
  unfold T155
  repeat' first | with_reducible exact cC | exact cD0 gK) h
def T156 (O : Orc) (k : Nat) (A : Nat) (B : List V) : Option V := O.L 0 156 0 [true, true, false, true] [] k [(0, sl A B), (3, int .i64 0), (4, int .i64 0)] []
theorem E156 (A B) {r : V} (h : T156 (orcE C) 0 A B = some r) : runE C 156 [sl A B] = some r := ofR (j := 1) (F := fun s => T156 (orc C s.k) s.k A B) (fun _ =>
 by kernel_rfl) (by
  unfold T156
  repeat' first | with_reducible exact cC | exact cD0 gK) h
def T165l1 (O : Orc) (m : Nat) (A : Nat) (B : List V) (D G : Int) (H : Nat) (I : List V) (J : Nat) (K : List V) (L : Nat) (M : List V) (N : Nat) (P : List
 V) (Q R S U : Int) (W : Bool) (X : Int) (Y : Nat) (Z : List V) (A0 : Nat) (A1 : List V) (A2 : Nat) (A3 : List V) (A4 : Nat) (A5 : List V) (A6 : Nat) (A7
 : List V) (A8 : Int) (A9 : Int) (B0 : Int) (B1 : Bool) (B2 : Int) (B3 : Nat) (B4 : List V) (B5 : Nat) (B6 : List V) (B7 : Nat) (B8 : List V) (B9 : Nat) (D0 : List V) (D1 : Nat) (D2 :
 List V) : Option V := bif decide ((↑D1 : Int) > 24) then must (true && decide (1 ≤ (↑D1 : Int))) (O.L 0 165 0 [true, true, true, true, true, true, true, false] [] m [(2, sl A B), (4, ptr 0 0),
 (6, ptr 1 0), (8, ptr 7 0)] [Ob.box 55 [int .i64 D, int .i64 G, sl H I, sl J K, sl L M, sl N P] false, Ob.box 59 [int .i64 Q, int .i64 R, int .i64 S, ref 2,
 ref 3, ref 4, ref 5, int .i64 U, bool W, ref 6, int .i64 X] false, Ob.row 5 Y Z false, Ob.row 5 A0 A1 false, Ob.row 5 A2 A3 false, Ob.row 161 A4 A5 false, Ob.nrow [] 22
 A6 A7, Ob.box 52 [int .i64 A8, int .i64 A9, ref 8, ref 9, ref 10, ref 11, int .i64 B0, bool B1, sl (D1 - 1) (List.take ((D1 - 1) * 1) (List.drop 1 D2)), int .i64
 (i64.wrap (B2 + 1))] false, Ob.row 5 B3 B4 false, Ob.row 5 B5 B6 false, Ob.row 5 B7 B8 false, Ob.row 161 B9 D0 false]) else need (O.R 0 144 [agg [int .i64 D, int .i64 G, sl
 H I, sl J K, sl L M]]) fun a => asTup (some a) fun b => PI.asInt .i64 b[0]? fun c => PI.asInt .i64 b[1]? fun d => asOsl b[2]? fun e f => asOsl b[3]? fun g i => asOsl b[4]? fun
 j l => need (O.R 0 158 [sl A B]) fun n => asTup (some n) fun p => asOsl p[0]? fun v w => some (tup [int .i64 0, int .i64 c, int .i64 d, sl e f, sl g i, sl j
 l, sl v w, int .i64 B0, bool B1, sl D1 D2, int .i64 B2])
theorem E165l1 (A B D G H I J K L M N P Q R S U W X Y Z A0 A1 A2 A3 A4 A5 A6 A7 A8 A9) (B0
 : Int) (B1 : Bool) (B2 : Int) (B3 : Nat) (B4 : List V) (B5 : Nat) (B6 : List V) (B7 : Nat) (B8 : List V) (B9 : Nat) (D0 : List V) (D1 : Nat) (D2 : List V) {r : V} (h : T165l1 (orcE C) 0 A B D G H I J K L M N P Q R S U W X Y Z A0 A1 A2 A3 A4 A5 A6 A7 A8 A9 B0 B1 B2 B3 B4 B5 B6 B7 B8 B9 D0 D1 D2 = some r) : loopE C 165 0 [true,
 true, true, true, true, true, true, false] [] [(2, sl A B), (4, ptr 0 0), (6, ptr 1 0), (8, ptr 7 0)] [Ob.box 55 [int .i64 D, int .i64 G, sl H I, sl J K, sl L M, sl N
 P] false, Ob.box 59 [int .i64 Q, int .i64 R, int .i64 S, ref 2, ref 3, ref 4, ref 5, int .i64 U, bool W, ref 6, int .i64 X] false, Ob.row 5 Y Z false, Ob.row 5
 A0 A1 false, Ob.row 5 A2 A3 false, Ob.row 161 A4 A5 false, Ob.nrow [] 22 A6 A7, Ob.box 52 [int .i64 A8, int .i64 A9, ref 8, ref 9, ref 10, ref 11, int .i64 B0, bool B1,
 ref 12, int .i64 B2] false, Ob.row 5 B3 B4 false, Ob.row 5 B5 B6 false, Ob.row 5 B7 B8 false, Ob.row 161 B9 D0 false, Ob.row 22 D1 D2 false] = some r := ofL (j := 0) (F := fun s =>
 T165l1 (orc C s.k) s.m A B D G H I J K L M N P Q R S U W X Y Z A0 A1 A2 A3 A4 A5 A6 A7 A8 A9 B0 B1 B2 B3 B4 B5 B6 B7 B8 B9 D0 D1 D2) (fs0
 fun _ _ => by kernel_rfl) (by
  unfold T165l1
  repeat' first | (with_reducible first | intro _ | exact cC | apply cN cR | apply cT | apply cI | apply cM | apply cF | apply cO | apply cN cC | exact cR) | exact cD0 gM) h
end Go.Proofs.YtodapaplfjfnlaaGreat.EqQ
