/-
  The functions of a table, as the interpreter tells them. Printed by a program.
-/
import Derived.Test.YtodapaplfjfnlaaGreatPIEqQx
noncomputable section
namespace Go.Proofs.YtodapaplfjfnlaaGreat.EqQ
open Go Go.PI V IntKind
set_option maxRecDepth 100000
set_option maxHeartbeats 4000000
set_option linter.unusedVariables false
set_option linter.unusedSimpArgs false
def T157 (O : Orc) (k : Nat) (A : Nat) (B : List V) (D : Nat) (G : List V) (H I : Int) (J : Nat) (K : List V) (L : Nat) (M : List V) (N : Nat) (P : List V) (Q : Nat) (R : List V) : Option V := O.L 0 157 0 [true, true, false, true] [] k [(0, sl A B), (1, sl D G), (5, ptr 0 0), (7, int .i64 0), (8, int .i64 0)] [Ob.box 55 [int .i64 H,
 int .i64 I, sl J K, sl L M, sl N P, sl Q R] false]
theorem E157 (A B D G H I J K L M N P Q R) {r : V} (h
 : T157 (orcE C) 0 A B D G H I J K L M N P Q R = some r) : runE C 157 [sl A B, sl D G, agg [int .i64 H, int .i64 I, sl J K, sl L M, sl N P, sl
 Q R]] = some r := ofR (j := 1) (F := fun s => T157 (orc C s.k) s.k A B D G H I J K L M N P Q R) (fun _ => by kernel_rfl) (by
  unfold T157
  repeat' first | with_reducible exact cC | exact cD0 gK) h
def T133 (O : Orc) (k : Nat) (A : Int) : Option V := O.L 0 133 0 [true, true, false, true] [] k [(0, int .i64 A), (3, ref 0), (4, int .i64 6)] [Ob.row 5 7 [int .u8 0,
 int .u8 0, int .u8 0, int .u8 0, int .u8 0, int .u8 0, int .u8 0] false]
theorem E133 (A) {r : V} (h : T133 (orcE C) 0 A = some r) : runE C 133 [int .i64 A] = some r := ofR (j := 1) (F := fun s => T133 (orc C s.k) s.k A) (fun _ => by kernel_rfl) (by
  unfold T133
  repeat' first | with_reducible exact cC | exact cD0 gK) h
def T131 (O : Orc) (A : Nat) (B : List V) : Option V := need (O.R 0 183 [sl A B]) fun a => asTup (some a) fun b => asSl b[0]? fun c d => PI.asBool b[1]? fun
 e => some (tup [sl c d])
theorem E131 (A B) {r : V} (h : T131 (orcE C) A B = some r) : runE C 131 [sl A B] = some r := ofR (j := 1) (F := fun s => T131 (orc C s.k) A B) (fun _ =>
 by kernel_rfl) (by
  unfold T131
  repeat' first | (with_reducible first | intro _ | exact cC | apply cN cR | apply cT | apply cB | apply cL | apply cN cC | exact cR)) h
def T147 (O : Orc) (A : ByteArray) (B : Nat) (D : List V) : Option V := must (A.size.ble 140737488355328) (must (decide (D.length = B * 1)) (must (true && (2 +
 B).ble 140737488355328 && ((2 + B) * 24).ble 140737488355328) (need (O.R 0 130 [sl (2 + B) (sl 1 [int .u8 (u8.wrap (↑A.size : Int))] :: sl A.size (bytesV A.data.toList) :: D)])
 fun a => asTup (some a) fun b => asOsl b[0]? fun c d => must (false || d.all flatV) (some (tup [osl c d])))))
theorem E147 (A B D) {r : V} (h : T147 (orcE C) A B D = some r) : runE C 147 [str A, sl B D] = some r := ofR (j := 1) (F := fun s => T147 (orc C s.k) A B D) (fun _ => by kernel_rfl) (by
  unfold T147
  repeat' first | (with_reducible first | intro _ | exact cC | apply cN cR | apply cT | apply cM | apply cO | apply cN cC | exact cR)) h
def T146 (O : Orc) (k : Nat) (A : Nat) (B : List V) (D : Nat) (G : List V) (H : Int) (I : Nat) (J : List V) (K L : Int) (M : Nat) (N : List V) : Option V :=
 need (O.R 0 191 [agg [int .i64 H, sl I J, int .i64 K, int .i64 L, sl M N]]) fun a => asTup (some a) fun b => PI.asBool b[0]? fun c => bif !c then some (tup [bool false])
 else need (O.R 0 128 [sl I J]) fun d => asTup (some d) fun e => PI.asBool e[0]? fun f => bif !f then some (tup [bool false]) else need (O.R 0 192 [sl D G]) fun g => asTup (some g)
 fun i => asOsl i[0]? fun j l => O.L 0 146 0 [true, true, true, false, true] [] k [(0, sl A B), (5, ptr 0 0), (7, ref 1), (21, ref 2), (22, int .i64 (↑j : Int)), (23, int .i64 0)]
 [Ob.box 167 [int .i64 H, sl I J, int .i64 K, int .i64 L, sl M N] false, Ob.row 5 0 [] false, Ob.row 2 j l false]
theorem E146 (A B D G H I J K L M N) {r : V} (h : T146 (orcE C) 0 A B D G H I
 J K L M N = some r) : runE C 146 [sl A B, sl D G, agg [int .i64 H, sl I J, int .i64 K, int .i64 L, sl M N]] = some r := ofR (j := 1) (F := fun s => T146 (orc C s.k) s.k A B D G H I J K L M N) (fun _ => by kernel_rfl) (by
  unfold T146
  repeat' first | (with_reducible first | intro _ | exact cC | apply cN cR | apply cT | apply cF | apply cB | apply cO | apply cN cC | exact cR) | exact cD0 gK) h
def T160l1 (O : Orc) (m : Nat) (A : Nat) (B : List V) (D : Int) (G : Nat) (H : List V) (I J : Int) : Option V := bif decide (J < I) then must (inB J G)
 (PI.asInt .i64 H[J.toNat * 6]? fun a => PI.asInt .i64 H[J.toNat * 6 + 1]? fun b => asSl H[J.toNat * 6 + 1 + 1]? fun c d => PI.asInt .i64 H[J.toNat * 6 + 1 + 1 + 1]? fun e => PI.asInt .i64
 H[J.toNat * 6 + 1 + 1 + 1 + 1]? fun f => asSl H[J.toNat * 6 + 1 + 1 + 1 + 1 + 1]? fun g i => must (inB a A) (PI.asInt .i64 B[a.toNat * 2 + 1]? fun j => O.L 0 160 0 [true, true, false,
 true] [] m [(0, sl A B), (5, int .i64 (i64.wrap (D + j))), (9, sl G H), (10, int .i64 I), (11, int .i64 (i64.wrap (J + 1)))] [])) else some (tup [int .i64 D])
theorem E160l1 (A B D G H I J) {r : V} (h : T160l1 (orcE C) 0 A B D G H I J = some r) : loopE C 160 0 [true, true, false,
 true] [] [(0, sl A B), (5, int .i64 D), (9, sl G H), (10, int .i64 I), (11, int .i64 J)] [] = some r := ofL (j := 0) (F := fun s => T160l1 (orc C s.k) s.m A B D G H I
 J) (fs0 fun _ _ => by kernel_rfl) (by
  unfold T160l1
  repeat' first | (with_reducible first | intro _ | exact cC | apply cI | apply cM | apply cF | apply cL) | exact cD0 gM) h
def T149l1 (O : Orc) (m : Nat) (A : Int) (B : Nat) (D : List V) (G H : Int) : Option V := bif decide (H < G) then must (inB H B) (asSl D[H.toNat * 2]? fun a b
 => PI.asInt .i64 D[H.toNat * 2 + 1]? fun c => O.L 0 149 0 [true, true, false, true] [] m [(3, int .i64 (i64.wrap (A + c))), (6, sl B D), (7, int .i64 G), (8, int .i64
 (i64.wrap (H + 1)))] []) else some (tup [int .i64 A])
theorem E149l1 (A B D G H) {r : V} (h : T149l1 (orcE C) 0 A B D G H = some r) : loopE C 149 0 [true, true, false, true] [] [(3, int .i64 A),
 (6, sl B D), (7, int .i64 G), (8, int .i64 H)] [] = some r := ofL (j := 0) (F := fun s => T149l1 (orc C s.k) s.m A B D G H) (fs0 fun _ _ => by kernel_rfl) (by
  unfold T149l1
  repeat' first | (with_reducible first | intro _ | exact cC | apply cI | apply cM | apply cF | apply cL) | exact cD0 gM) h
def T104s2 (O : Orc) (A : Nat) (B : List V) : Option V := need (O.R 0 167 [sl A B, fn 181 []]) fun a => asTup (some a) fun b => PI.asInt .i64 b[0]? fun c =>
 some (tup [bool (decide (c ≥ 0))])
theorem E104s2 (A B) {r : V} (h : T104s2 (orcE C) A B = some r) : runE C 104 [sl A B, fn 181 []] = some r := ofR (j := 1) (F := fun s => T104s2 (orc C s.k) A B) (fun _ => by kernel_rfl) (by
  unfold T104s2
  repeat' first | (with_reducible first | intro _ | exact cC | apply cN cR | apply cT | apply cI | apply cN cC | exact cR)) h
def T106 (O : Orc) (A : Nat) (B : List V) : Option V := some (tup [bool ((↑A : Int) == 32)])
theorem E106 (A B) {r : V} (h : T106 (orcE C) A B = some r) : runE C 106 [sl A B] = some r := ofR (j := 1) (F := fun s => T106 (orc C s.k) A B) (fun _ =>
 by kernel_rfl) (by
  unfold T106
  exact cC) h
def T166 (O : Orc) (A : Nat) (B : List V) (D : Nat) (G : List V) : Option V := need (O.R 0 200 [sl A B, fn 201 [pin [sl D G] 0]]) fun a => asTup (some
 a) fun b => PI.asInt .i64 b[0]? fun c => some (tup [int .i64 c])
theorem E166 (A B D G) {r : V} (h : T166 (orcE C) A B D G = some r) : runE C 166 [sl A B, sl D G] = some r := ofR (j := 1) (F := fun s =>
 T166 (orc C s.k) A B D G) (fun _ => by kernel_rfl) (by
  unfold T166
  repeat' first | (with_reducible first | intro _ | exact cC | apply cN cR | apply cT | apply cI | apply cN cC | exact cR)) h
def T167l1 (O : Orc) (m : Nat) (A : Nat) (B : List V) (D G : Int) : Option V := bif decide (G < D) then must (inB G A) (must (decide (G.toNat * 1 < B.length))
 (asSl B[G.toNat * 1]? fun a b => need (O.R 0 105 [sl a b]) fun c => asTup (some c) fun d => PI.asBool d[0]? fun e => bif e then some (tup [int .i64 G]) else O.L 0 167 0 [true,
 false, true] [] m [(0, sl A B), (1, fn 105 []), (7, int .i64 D), (8, int .i64 (i64.wrap (G + 1)))] [])) else some (tup [int .i64 (-1)])
theorem E167l1 (A B D G) {r : V} (h : T167l1 (orcE C) 0 A B D G = some r) : loopE C 167 0 [true, false, true] [] [(0, sl A B), (1, fn 105 []), (7,
 int .i64 D), (8, int .i64 G)] [] = some r := ofL (j := 0) (F := fun s => T167l1 (orc C s.k) s.m A B D G) (fs0 fun _ _ => by kernel_rfl) (by
  unfold T167l1
  repeat' first | (with_reducible first | intro _ | exact cC | apply cN cR | apply cT | apply cM | apply cF | apply cB | apply cL | apply cN cC | exact cR) | exact cD0 gM) h
def T137 (O : Orc) (k : Nat) (A : Nat) (B : List V) : Option V := O.L 0 137 0 [true, true, false, true] [] k [(0, sl A B), (3, ref 0), (4, int .i64 0)] [Ob.nrow [] 22 0
 []]
theorem E137 (A B) {r : V} (h : T137 (orcE C) 0 A B = some r) : runE C 137 [sl A B] = some r := ofR (j := 1) (F := fun s => T137 (orc C s.k) s.k A B) (fun _ =>
 by kernel_rfl) (by
  unfold T137
  repeat' first | with_reducible exact cC | exact cD0 gK) h
def T138 (O : Orc) (A : ByteArray) (B : Nat) (D : List V) : Option V := must (A.size.ble 140737488355328) (must (decide ((bytesV A.data.toList).length = A.size *
 1)) (must (true && (1 + A.size).ble 140737488355328 && ((1 + A.size) * 1).ble 140737488355328) (must (decide (D.length = B * 1)) (must (true && (1 + A.size + B).ble 140737488355328 && ((1 +
 A.size + B) * 1).ble 140737488355328) (need (O.R 0 186 [sl (1 + A.size + B) (int .u8 (u8.wrap ((↑A.size : Int).tmod 256)) :: bytesV A.data.toList ++ D)]) fun a => asTup (some a)
 fun b => asOsl b[0]? fun c d => must (false || d.all flatV) (some (tup [osl c d])))))))
theorem E138 (A B D) {r : V} (h : T138 (orcE C) A B D = some r) : runE C 138 [str A, sl B D] = some r := ofR (j := 1) (F := fun s => T138 (orc C s.k) A B D) (fun _ => by kernel_rfl) (by
  unfold T138
  repeat' first | (with_reducible first | intro _ | exact cC | apply cN cR | apply cT | apply cM | apply cO | apply cN cC | exact cR)) h
def T139 (O : Orc) (A : Nat) (B : List V) : Option V := need (O.R 0 138 [str { data := #[(108 : UInt8), (101 : UInt8), (97 : UInt8), (102 : UInt8)] }, sl A B])
 fun a => asTup (some a) fun b => asOsl b[0]? fun c d => must (false || d.all flatV) (some (tup [osl c d]))
theorem E139 (A B) {r : V} (h : T139 (orcE C) A B = some r) : runE C 139 [sl A B] = some r := ofR (j := 1) (F := fun s => T139 (orc C s.k) A B) (fun _ =>
 by kernel_rfl) (by
  unfold T139
  repeat' first | (with_reducible first | intro _ | exact cC | apply cN cR | apply cT | apply cM | apply cO | apply cN cC | exact cR)) h
def T140 (O : Orc) (k : Nat) (A : Int) : Option V := O.L 0 140 0 [true, true, false] [] k [(0, int .i64 A), (3, int .i64 1)] []
theorem E140 (A) {r : V} (h : T140 (orcE C) 0 A = some r) : runE C 140 [int .i64 A] = some r := ofR (j := 1) (F := fun s => T140 (orc C s.k) s.k A) (fun _ => by kernel_rfl) (by
  unfold T140
  repeat' first | with_reducible exact cC | exact cD0 gK) h
def T141 (O : Orc) (A : Nat) (B : List V) (D : Nat) (G : List V) : Option V := must (decide (B.length = A * 1)) (must (true && (0 + A).ble 140737488355328 && ((0
 + A) * 1).ble 140737488355328) (must (decide (G.length = D * 1)) (must (true && (0 + A + D).ble 140737488355328 && ((0 + A + D) * 1).ble 140737488355328) (need (O.R 0 138 [str { data :=
 #[(110 : UInt8), (111 : UInt8), (100 : UInt8), (101 : UInt8)] }, sl (0 + A + D) (B ++ G)]) fun a => asTup (some a) fun b => asOsl b[0]? fun c d => must (false || d.all flatV) (some (tup
 [osl c d]))))))
theorem E141 (A B D G) {r : V} (h : T141 (orcE C) A B D G = some r) : runE C 141 [sl A B, sl D G] = some r := ofR (j := 1) (F := fun s =>
 T141 (orc C s.k) A B D G) (fun _ => by kernel_rfl) (by
  unfold T141
  repeat' first | (with_reducible first | intro _ | exact cC | apply cN cR | apply cT | apply cM | apply cO | apply cN cC | exact cR)) h
def T69l1 (O : Orc) (m : Nat) (A : Nat) (B : List V) (D : Int) (G : Nat) (H : List V) : Option V := bif decide (D < (↑A : Int)) then must (inB D A) (must (decide
 (D.toNat * 2 + 0 < B.length)) (must (inB D A) (PI.asInt .i64 B[D.toNat * 2 + 1]? fun a => need (O.R 0 142 [int .i64 a]) fun b => asTup (some b) fun c => asSl c[0]? fun d e => asSl
 B[D.toNat * 2 + 0]? fun f g => must (true && (G + 2).ble 140737488355328 && ((G + 2) * 24).ble 140737488355328) (O.L 0 69 0 [true, true, false, true] [] m [(0, sl A B), (3, ref 0), (4,
 int .i64 (i64.wrap (D + 1)))] [Ob.row 22 (G + 2) (H ++ [sl f g, sl d e]) false])))) else need (O.R 0 143 [sl G H]) fun i => asTup (some i) fun j => asOsl j[0]? fun l n
 => need (O.R 0 138 [str { data := #[(115 : UInt8), (101 : UInt8), (116 : UInt8)] }, sl l n]) fun p => asTup (some p) fun v => asOsl v[0]? fun w x => some (tup [sl w x])
theorem E69l1 (A B D G H) {r : V} (h : T69l1 (orcE C) 0 A B D G H = some r) : loopE C 69 0 [true, true, false, true] [] [(0, sl A B), (3,
 ref 0), (4, int .i64 D)] [Ob.row 22 G H false] = some r := ofL (j := 0) (F := fun s => T69l1 (orc C s.k) s.m A B D G H) (fs0 fun _ _ => by kernel_rfl) (by
  unfold T69l1
  repeat' first | (with_reducible first | intro _ | exact cC | apply cN cR | apply cT | apply cI | apply cM | apply cF | apply cL | apply cO | apply cN cC | exact cR) | exact cD0 gM) h
def T72l1 (O : Orc) (m : Nat) (A B : Int) (D : Nat) (G : List V) (H : Int) (I : Nat) (J : List V) : Option V := bif decide (B < A) then need (O.W 0 40 [] [ptr 0
 0, int .i64 4] [Ob.box 142 [sl D G, int .i64 H] false]) fun a => asTup (some a) fun b => PI.asBool b[0]? fun c => asSl b[1]? fun d e => PI.asInt .i64 b[2]? fun f => bif !c then
 must (true && (I + 1).ble 140737488355328 && ((I + 1) * 8).ble 140737488355328) (O.X 0 72 [] [Ob.box 142 [V.u, V.u] false] 0 [true, true, false, true] [] m [(0, ptr 0 0), (1, int .i64 A), (5,
 ref 1), (6, int .i64 (i64.wrap (B + 1)))] [Ob.box 142 [sl d e, int .i64 f] false, Ob.row 2 (I + 1) (J ++ [int .i64 B]) false]) else O.X 0 72 [] [Ob.box 142 [V.u, V.u] false] 0
 [true, true, false, true] [] m [(0, ptr 0 0), (1, int .i64 A), (5, ref 1), (6, int .i64 (i64.wrap (B + 1)))] [Ob.box 142 [sl d e, int .i64 f] false, Ob.row 2 I J false] else
 some (tup [sl I J, sl D G, int .i64 H])
theorem E72l1 (A B D G H I J) {r : V} (h : T72l1 (orcE C) 0 A B D G H I J = some r) : loopWE C 72 [] [Ob.box 142 [V.u,
 V.u] false] 0 [true, true, false, true] [] [(0, ptr 0 0), (1, int .i64 A), (5, ref 1), (6, int .i64 B)] [Ob.box 142 [sl D G, int .i64 H] false, Ob.row 2 I J false] = some r := ofX
 (j := 0) (F := fun s => T72l1 (orc C s.k) s.m A B D G H I J) (fs0 fun _ _ => by kernel_rfl) (by
  unfold T72l1
  repeat' first | (with_reducible first | intro _ | exact cC | apply cN cQ | apply cT | apply cI | apply cM | apply cF | apply cB | apply cL | apply cN cC | exact cQ) | exact cX0 gM) h
def T144 (O : Orc) (A B : Int) (D : Nat) (G : List V) (H : Nat) (I : List V) (J : Nat) (K : List V) : Option V := must (decide (G.length = D * 1))
 (must (true && (0 + D).ble 140737488355328 && ((0 + D) * 1).ble 140737488355328) (must (decide (I.length = H * 1)) (must (true && (0 + H).ble 140737488355328 && ((0 + H) * 1).ble
 140737488355328) (must (decide (K.length = J * 1)) (must (true && (0 + J).ble 140737488355328 && ((0 + J) * 1).ble 140737488355328) (must (false || G.all flatV) (must (false || I.all flatV)
 (must (false || K.all flatV) (some (tup [int .i64 A, int .i64 B, osl (0 + D) G, osl (0 + H) I, osl (0 + J) K]))))))))))
theorem E144 (A B D G H I J K) {r : V} (h : T144 (orcE C) A B D G H I J K = some r) : runE C 144 [agg
 [int .i64 A, int .i64 B, sl D G, sl H I, sl J K]] = some r := ofR (j := 1) (F := fun s => T144 (orc C s.k) A B D G H I J K) (fun _ => by kernel_rfl) (by
  unfold T144
  repeat' first | (with_reducible first | intro _ | exact cC | apply cM)) h
def T71l1 (O : Orc) (m : Nat) (A : Nat) (B : List V) (D : Nat) (G : List V) (H : Int) (I : Nat) (J : List V) (K L M : Int) (N : Nat) (P : List V) (Q : Nat) (R : List V) (S : Nat) (U : List V) (W : Nat) (X : List V) (Y Z : Int) (A0 : Nat) (A1 : List V) (A2 : Nat) (A3 : List V) (A4 : Nat) (A5 : List V) (A6 : Nat) (A7 : List V) : Option V := bif decide (K < (↑D : Int)) then must (inB K D) (PI.asInt .i64 G[K.toNat * 1]? fun a => must (inB K D) (PI.asInt .i64 G[K.toNat * 1]? fun b => must (inB b A)
 (must (decide (b.toNat * 1 < B.length)) (asSl B[b.toNat * 1]? fun c d => need (O.R 0 145 [sl c d, int .i64 H, sl I J]) fun e => asTup (some e) fun f => PI.asInt .i64 f[0]? fun g
 => asOsl f[1]? fun i j => PI.asInt .i64 f[2]? fun l => PI.asInt .i64 f[3]? fun n => asOsl f[4]? fun p v => must (true && (A6 + 1).ble 140737488355328 && ((A6 + 1) * 80).ble
 140737488355328) (O.L 0 71 0 [true, true, true, false, true] [] m [(0, sl A B), (1, sl D G), (2, int .i64 H), (8, ptr 0 0), (9, ptr 5 0), (10, sl I J), (11, int .i64
 (i64.wrap (K + 1)))] [Ob.box 55 [int .i64 L, int .i64 M, ref 1, ref 2, ref 3, ref 4] false, Ob.row 5 N P false, Ob.row 5 Q R false, Ob.row 5 S U false, Ob.nrow []
 170 W X, Ob.box 55 [int .i64 Y, int .i64 Z, ref 6, ref 7, ref 8, ref 9] false, Ob.row 5 A0 A1 false, Ob.row 5 A2 A3 false, Ob.row 5 A4 A5 false, Ob.nrow [] 170 (A6 + 1) (A7
 ++ [int .i64 a, int .i64 g, own true 22 1 i j, int .i64 l, int .i64 n, own true 22 1 p v])]))))) else some (tup [int .i64 Y, int .i64 Z, sl A0 A1, sl A2 A3,
 sl A4 A5, sl A6 (bareL A7)])
theorem E71l1 (A B D G H I J K L M N P Q R S U W X Y Z A0 A1 A2 A3 A4 A5 A6 A7) {r : V} (h : T71l1 (orcE
 C) 0 A B D G H I J K L M N P Q R S U W X Y Z A0 A1 A2 A3 A4 A5 A6 A7 = some r) : loopE C 71 0 [true, true, true, false, true] [] [(0, sl A B), (1, sl
 D G), (2, int .i64 H), (8, ptr 0 0), (9, ptr 5 0), (10, sl I J), (11, int .i64 K)] [Ob.box 55 [int .i64 L, int .i64 M, ref 1, ref 2, ref 3, ref 4] false, Ob.row 5 N
 P false, Ob.row 5 Q R false, Ob.row 5 S U false, Ob.nrow [] 170 W X, Ob.box 55 [int .i64 Y, int .i64 Z, ref 6, ref 7, ref 8, ref 9] false, Ob.row 5 A0 A1 false, Ob.row
 5 A2 A3 false, Ob.row 5 A4 A5 false, Ob.nrow [] 170 A6 A7] = some r := ofL (j := 0) (F := fun s => T71l1 (orc C s.k) s.m A B D G H I J K L M N P Q R S U W X
 Y Z A0 A1 A2 A3 A4 A5 A6 A7) (fs0 fun _ _ => by kernel_rfl) (by
  unfold T71l1
  repeat' first | (with_reducible first | intro _ | exact cC | apply cN cR | apply cT | apply cI | apply cM | apply cF | apply cL | apply cO | apply cN cC | exact cR) | exact cD0 gM) h
def T158 (O : Orc) (k : Nat) (A : Nat) (B : List V) : Option V := O.L 0 158 0 [true, true, false, true] [] k [(0, sl A B), (3, ref 0), (4, int .i64 0)] [Ob.row 161 0 []
 false]
theorem E158 (A B) {r : V} (h : T158 (orcE C) 0 A B = some r) : runE C 158 [sl A B] = some r := ofR (j := 1) (F := fun s => T158 (orc C s.k) s.k A B) (fun _ =>
 by kernel_rfl) (by
  unfold T158
  repeat' first | with_reducible exact cC | exact cD0 gK) h
def T159 (O : Orc) (k : Nat) (A : Nat) (B : List V) : Option V := O.L 0 159 0 [true, true, false, true] [] k [(0, sl A B), (3, ref 0), (4, int .i64 0)] [Ob.row 22 0 []
 false]
theorem E159 (A B) {r : V} (h : T159 (orcE C) 0 A B = some r) : runE C 159 [sl A B] = some r := ofR (j := 1) (F := fun s => T159 (orc C s.k) s.k A B) (fun _ =>
 by kernel_rfl) (by
  unfold T159
  repeat' first | with_reducible exact cC | exact cD0 gK) h
def T70l1 (O : Orc) (m : Nat) (A : Int) (B : Nat) (D : List V) (G : Int) (H : Nat) (I : List V) : Option V := bif decide (A > 0) then need (O.W 0 41 [] [ptr 0 0, int
 .i64 256] [Ob.box 142 [sl B D, int .i64 G] false]) fun a => asTup (some a) fun b => PI.asInt .i64 b[0]? fun c => asSl b[1]? fun d e => PI.asInt .i64 b[2]? fun f => must (true && (H +
 1).ble 140737488355328 && ((H + 1) * 1).ble 140737488355328) (O.X 0 70 [] [Ob.box 142 [V.u, V.u] false] 0 [true, true, false] [] m [(0, ptr 0 0), (1, int .i64 (i64.wrap (A - 1))), (5,
 ref 1)] [Ob.box 142 [sl d e, int .i64 f] false, Ob.row 5 (H + 1) (I ++ [int .u8 (u8.wrap c)]) false]) else some (tup [sl H I, sl B D, int .i64 G])
theorem E70l1 (A B D G H I) {r : V} (h : T70l1 (orcE C) 0 A B D G H I = some r) : loopWE C 70 [] [Ob.box 142 [V.u, V.u] false] 0
 [true, true, false] [] [(0, ptr 0 0), (1, int .i64 A), (5, ref 1)] [Ob.box 142 [sl B D, int .i64 G] false, Ob.row 5 H I false] = some r := ofX (j := 0) (F := fun s => T70l1 (orc C s.k) s.m A B D G H I) (fs0 fun _ _ => by kernel_rfl) (by
  unfold T70l1
  repeat' first | (with_reducible first | intro _ | exact cC | apply cN cQ | apply cT | apply cI | apply cM | apply cF | apply cL | apply cN cC | exact cQ) | exact cX0 gM) h
def T79 (O : Orc) (A B : Int) (D : Nat) (G : List V) (H : Nat) (I : List V) (J : Nat) (K : List V) (L : Nat) (M : List V) (N : Int) (P : Bool) (Q : Nat) (R : List V) (S : Int) : Option V := both (both (need (O.R 0 150 [agg [int .i64 A, int .i64 B, sl D G, sl H I, sl J K]]) fun a => asTup (some a) fun b =>
 PI.asInt .i64 b[0]? fun c => PI.asInt .i64 b[1]? fun d => asOsl b[2]? fun e f => asOsl b[3]? fun g i => asOsl b[4]? fun j l => both (both (need (O.R 0 151 [sl L M]) fun n => asTup
 (some n) fun p => asOsl p[0]? fun v w => need (O.R 0 152 [sl Q R]) fun x => asTup (some x) fun y => asOsl y[0]? fun z a0 => must (false || f.all flatV) (must (false ||
 i.all flatV) (must (false || l.all flatV) (some (tup [int .i64 c, int .i64 d, osl e f, osl g i, osl j l, osl v w, int .i64 N, bool P, osl z a0, int .i64
 S]))))) (need (O.R 0 151 [sl L M]) fun a1 => asTup (some a1) fun a2 => asOsl a2[0]? fun a3 a4 => need (O.R 0 152 [sl Q R]) fun a5 => asTup (some a5) fun a6 => asOsl a6[0]? fun
 a7 a8 => must (false || f.all flatV) (must (false || i.all flatV) (must (false || l.all flatV) (some (tup [int .i64 c, int .i64 d, osl e f, osl g i, osl j l, osl a3 a4,
 int .i64 N, bool P, osl a7 a8, int .i64 S])))))) (need (O.R 0 151 [sl L M]) fun a9 => asTup (some a9) fun b0 => asOsl b0[0]? fun b1 b2 => need (O.R 0 152 [sl Q R]) fun
 b3 => asTup (some b3) fun b4 => asOsl b4[0]? fun b5 b6 => must (false || f.all flatV) (must (false || i.all flatV) (must (false || l.all flatV) (some (tup [int .i64 c, int .i64 d,
 osl e f, osl g i, osl j l, osl b1 b2, int .i64 N, bool P, osl b5 b6, int .i64 S])))))) (both (both (need (O.R 0 150 [agg [int .i64 A, int .i64 B, sl D G,
 sl H I, sl J K]]) fun b7 => asTup (some b7) fun b8 => PI.asInt .i64 b8[0]? fun b9 => PI.asInt .i64 b8[1]? fun c0 => asOsl b8[2]? fun c1 c2 => asOsl b8[3]? fun c3 c4 => asOsl
 b8[4]? fun c5 c6 => both (need (O.R 0 151 [sl L M]) fun c7 => asTup (some c7) fun c8 => asOsl c8[0]? fun c9 d0 => need (O.R 0 152 [sl Q R]) fun d1 => asTup (some d1) fun d2 =>
 asOsl d2[0]? fun d3 d4 => must (false || c2.all flatV) (must (false || c4.all flatV) (must (false || c6.all flatV) (some (tup [int .i64 b9, int .i64 c0, osl c1 c2, osl c3 c4,
 osl c5 c6, osl c9 d0, int .i64 N, bool P, osl d3 d4, int .i64 S]))))) (need (O.R 0 151 [sl L M]) fun d5 => asTup (some d5) fun d6 => asOsl d6[0]? fun d7 d8 => need
 (O.R 0 152 [sl Q R]) fun d9 => asTup (some d9) fun e0 => asOsl e0[0]? fun e1 e2 => must (false || c2.all flatV) (must (false || c4.all flatV) (must (false || c6.all flatV) (some (tup
 [int .i64 b9, int .i64 c0, osl c1 c2, osl c3 c4, osl c5 c6, osl d7 d8, int .i64 N, bool P, osl e1 e2, int .i64 S])))))) (need (O.R 0 150 [agg [int .i64 A,
 int .i64 B, sl D G, sl H I, sl J K]]) fun e3 => asTup (some e3) fun e4 => PI.asInt .i64 e4[0]? fun e5 => PI.asInt .i64 e4[1]? fun e6 => asOsl e4[2]? fun e7 e8 => asOsl e4[3]?
 fun e9 f0 => asOsl e4[4]? fun f1 f2 => need (O.R 0 151 [sl L M]) fun f3 => asTup (some f3) fun f4 => asOsl f4[0]? fun f5 f6 => need (O.R 0 152 [sl Q R]) fun f7 => asTup (some
 f7) fun f8 => asOsl f8[0]? fun f9 g0 => must (false || e8.all flatV) (must (false || f0.all flatV) (must (false || f2.all flatV) (some (tup [int .i64 e5, int .i64 e6, osl e7 e8,
 osl e9 f0, osl f1 f2, osl f5 f6, int .i64 N, bool P, osl f9 g0, int .i64 S])))))) (both (need (O.R 0 150 [agg [int .i64 A, int .i64 B, sl D G, sl H I, sl
 J K]]) fun g1 => asTup (some g1) fun g2 => PI.asInt .i64 g2[0]? fun g3 => PI.asInt .i64 g2[1]? fun g4 => asOsl g2[2]? fun g5 g6 => asOsl g2[3]? fun g7 g8 => asOsl g2[4]? fun g9 h0 =>
 need (O.R 0 151 [sl L M]) fun h1 => asTup (some h1) fun h2 => asOsl h2[0]? fun h3 h4 => need (O.R 0 152 [sl Q R]) fun h5 => asTup (some h5) fun h6 => asOsl h6[0]? fun h7 h8 =>
 must (false || g6.all flatV) (must (false || g8.all flatV) (must (false || h0.all flatV) (some (tup [int .i64 g3, int .i64 g4, osl g5 g6, osl g7 g8, osl g9 h0, osl h3 h4,
 int .i64 N, bool P, osl h7 h8, int .i64 S]))))) (need (O.R 0 150 [agg [int .i64 A, int .i64 B, sl D G, sl H I, sl J K]]) fun h9 => asTup (some h9) fun i0 =>
 PI.asInt .i64 i0[0]? fun i1 => PI.asInt .i64 i0[1]? fun i2 => asOsl i0[2]? fun i3 i4 => asOsl i0[3]? fun i5 i6 => asOsl i0[4]? fun i7 i9 => need (O.R 0 151 [sl L M]) fun j0
 => asTup (some j0) fun j1 => asOsl j1[0]? fun j2 j3 => need (O.R 0 152 [sl Q R]) fun j4 => asTup (some j4) fun j5 => asOsl j5[0]? fun j6 j7 => must (false || i4.all
 flatV) (must (false || i6.all flatV) (must (false || i9.all flatV) (some (tup [int .i64 i1, int .i64 i2, osl i3 i4, osl i5 i6, osl i7 i9, osl j2 j3, int .i64
 N, bool P, osl j6 j7, int .i64 S])))))))) (both (both (both (need (O.R 0 150 [agg [int .i64 A, int .i64 B, sl D G, sl H I, sl J K]]) fun j8 => asTup (some j8)
 fun j9 => PI.asInt .i64 j9[0]? fun l0 => PI.asInt .i64 j9[1]? fun l1 => asOsl j9[2]? fun l2 l3 => asOsl j9[3]? fun l4 l5 => asOsl j9[4]? fun l6 l7 => both (need (O.R 0 151
 [sl L M]) fun l8 => asTup (some l8) fun l9 => asOsl l9[0]? fun n0 n1 => need (O.R 0 152 [sl Q R]) fun n2 => asTup (some n2) fun n3 => asOsl n3[0]? fun n4 n5 => must
 (false || l3.all flatV) (must (false || l5.all flatV) (must (false || l7.all flatV) (some (tup [int .i64 l0, int .i64 l1, osl l2 l3, osl l4 l5, osl l6 l7, osl n0
 n1, int .i64 N, bool P, osl n4 n5, int .i64 S]))))) (need (O.R 0 151 [sl L M]) fun n6 => asTup (some n6) fun n7 => asOsl n7[0]? fun n8 n9 => need (O.R 0 152 [sl
 Q R]) fun p0 => asTup (some p0) fun p1 => asOsl p1[0]? fun p2 p3 => must (false || l3.all flatV) (must (false || l5.all flatV) (must (false || l7.all flatV) (some (tup [int
 .i64 l0, int .i64 l1, osl l2 l3, osl l4 l5, osl l6 l7, osl n8 n9, int .i64 N, bool P, osl p2 p3, int .i64 S])))))) (need (O.R 0 150 [agg [int .i64
 A, int .i64 B, sl D G, sl H I, sl J K]]) fun p4 => asTup (some p4) fun p5 => PI.asInt .i64 p5[0]? fun p6 => PI.asInt .i64 p5[1]? fun p7 => asOsl p5[2]? fun p8 p9 =>
 asOsl p5[3]? fun v0 v1 => asOsl p5[4]? fun v2 v3 => need (O.R 0 151 [sl L M]) fun v4 => asTup (some v4) fun v5 => asOsl v5[0]? fun v6 v7 => need (O.R 0 152 [sl Q R])
 fun v8 => asTup (some v8) fun v9 => asOsl v9[0]? fun w0 w1 => must (false || p9.all flatV) (must (false || v1.all flatV) (must (false || v3.all flatV) (some (tup [int .i64 p6,
 int .i64 p7, osl p8 p9, osl v0 v1, osl v2 v3, osl v6 v7, int .i64 N, bool P, osl w0 w1, int .i64 S])))))) (need (O.R 0 150 [agg [int .i64 A, int
 .i64 B, sl D G, sl H I, sl J K]]) fun w2 => asTup (some w2) fun w3 => PI.asInt .i64 w3[0]? fun w4 => PI.asInt .i64 w3[1]? fun w5 => asOsl w3[2]? fun w6 w7 => asOsl
 w3[3]? fun w8 w9 => asOsl w3[4]? fun x0 x1 => need (O.R 0 151 [sl L M]) fun x2 => asTup (some x2) fun x3 => asOsl x3[0]? fun x4 x5 => need (O.R 0 152 [sl Q R]) fun
 x6 => asTup (some x6) fun x7 => asOsl x7[0]? fun x8 x9 => must (false || w7.all flatV) (must (false || w9.all flatV) (must (false || x1.all flatV) (some (tup [int .i64 w4,
 int .i64 w5, osl w6 w7, osl w8 w9, osl x0 x1, osl x4 x5, int .i64 N, bool P, osl x8 x9, int .i64 S])))))) (both (both (need (O.R 0 150 [agg [int .i64
 A, int .i64 B, sl D G, sl H I, sl J K]]) fun y0 => asTup (some y0) fun y1 => PI.asInt .i64 y1[0]? fun y2 => PI.asInt .i64 y1[1]? fun y3 => asOsl y1[2]? fun y4 y5 =>
 asOsl y1[3]? fun y6 y7 => asOsl y1[4]? fun y8 y9 => need (O.R 0 151 [sl L M]) fun z0 => asTup (some z0) fun z1 => asOsl z1[0]? fun z2 z3 => need (O.R 0 152 [sl Q R])
 fun z4 => asTup (some z4) fun z5 => asOsl z5[0]? fun z6 z7 => must (false || y5.all flatV) (must (false || y7.all flatV) (must (false || y9.all flatV) (some (tup [int .i64 y2,
 int .i64 y3, osl y4 y5, osl y6 y7, osl y8 y9, osl z2 z3, int .i64 N, bool P, osl z6 z7, int .i64 S]))))) (need (O.R 0 150 [agg [int .i64 A, int
 .i64 B, sl D G, sl H I, sl J K]]) fun z8 => asTup (some z8) fun z9 => PI.asInt .i64 z9[0]? fun a00 => PI.asInt .i64 z9[1]? fun a01 => asOsl z9[2]? fun a02 a03 => asOsl
 z9[3]? fun a04 a05 => asOsl z9[4]? fun a06 a07 => need (O.R 0 151 [sl L M]) fun a08 => asTup (some a08) fun a09 => asOsl a09[0]? fun a10 a11 => need (O.R 0 152 [sl Q R]) fun
 a12 => asTup (some a12) fun a13 => asOsl a13[0]? fun a14 a15 => must (false || a03.all flatV) (must (false || a05.all flatV) (must (false || a07.all flatV) (some (tup [int .i64 a00,
 int .i64 a01, osl a02 a03, osl a04 a05, osl a06 a07, osl a10 a11, int .i64 N, bool P, osl a14 a15, int .i64 S])))))) (need (O.R 0 150 [agg [int .i64 A, int
 .i64 B, sl D G, sl H I, sl J K]]) fun a16 => asTup (some a16) fun a17 => PI.asInt .i64 a17[0]? fun a18 => PI.asInt .i64 a17[1]? fun a19 => asOsl a17[2]? fun a20 a21 => asOsl
 a17[3]? fun a22 a23 => asOsl a17[4]? fun a24 a25 => need (O.R 0 151 [sl L M]) fun a26 => asTup (some a26) fun a27 => asOsl a27[0]? fun a28 a29 => need (O.R 0 152 [sl Q R]) fun
 a30 => asTup (some a30) fun a31 => asOsl a31[0]? fun a32 a33 => must (false || a21.all flatV) (must (false || a23.all flatV) (must (false || a25.all flatV) (some (tup [int .i64 a18,
 int .i64 a19, osl a20 a21, osl a22 a23, osl a24 a25, osl a28 a29, int .i64 N, bool P, osl a32 a33, int .i64 S])))))))
theorem E79 (A B D G H I J K L M N P Q R S) {r
 : V} (h : T79 (orcE C) A B D G H I J K L M N P Q R S = some r) : runE C 79 [agg [int .i64 A, int .i64 B, sl D G, sl H I, sl J K, sl L M, int
 .i64 N, bool P, sl Q R, int .i64 S]] = some r := ofR (j := 1) (F := fun s => T79 (orc C s.k) A B D G H I J K L M N P Q R S) (fun _ => by kernel_rfl) (by
  unfold T79
  repeat' first | (with_reducible first | intro _ | exact cC | apply cN cR | apply cT | apply cI | apply cM | apply cO | apply cN cC | apply cW | exact cR)) h
def T148l1 (O : Orc) (m : Nat) (A : Nat) (B : List V) (D : Nat) (G : List V) (H : Int) (I : Nat) (J : List V) (K L : Int) : Option V := bif decide (L < K) then
 must (inB L I) (PI.asInt .i64 J[L.toNat * 6]? fun a => PI.asInt .i64 J[L.toNat * 6 + 1]? fun b => asSl J[L.toNat * 6 + 1 + 1]? fun c d => PI.asInt .i64 J[L.toNat * 6 + 1 + 1 + 1]? fun e
 => PI.asInt .i64 J[L.toNat * 6 + 1 + 1 + 1 + 1]? fun f => asSl J[L.toNat * 6 + 1 + 1 + 1 + 1 + 1]? fun g i => must (inB a A) (must (decide (a.toNat * 2 + 0 < B.length)) (asSl B[a.toNat *
 2 + 0]? fun j l => need (O.R 0 166 [sl D G, sl j l]) fun n => asTup (some n) fun p => PI.asInt .i64 p[0]? fun v => bif decide (v ≥ 0) then must (inB v D) (PI.asInt .i64
 G[v.toNat * 2 + 1]? fun w => O.L 0 148 0 [true, true, false, true] [] m [(0, sl A B), (1, sl D G), (7, int .i64 (i64.wrap (H + w))), (12, sl I J), (13, int .i64 K),
 (14, int .i64 (i64.wrap (L + 1)))] []) else O.L 0 148 0 [true, true, false, true] [] m [(0, sl A B), (1, sl D G), (7, int .i64 H), (12, sl I J), (13, int .i64 K), (14,
 int .i64 (i64.wrap (L + 1)))] []))) else some (tup [int .i64 H])
theorem E148l1 (A B D G H I J K L) {r : V} (h : T148l1 (orcE C) 0 A B D G H I J K L = some r) :
 loopE C 148 0 [true, true, false, true] [] [(0, sl A B), (1, sl D G), (7, int .i64 H), (12, sl I J), (13, int .i64 K), (14, int .i64 L)] [] = some r := ofL (j := 0) (F := fun s =>
 T148l1 (orc C s.k) s.m A B D G H I J K L) (fs0 fun _ _ => by kernel_rfl) (by
  unfold T148l1
  repeat' first | (with_reducible first | intro _ | exact cC | apply cN cR | apply cT | apply cI | apply cM | apply cF | apply cL | apply cN cC | exact cR) | exact cD0 gM) h
def T97l1 (O : Orc) (k m : Nat) (A : Nat) (B : List V) (D : Int) : Option V := bif decide (D < (↑A : Int)) then must (inB D A) (must (decide (D.toNat * 2 + 0 < B.length))
 (asSl B[D.toNat * 2 + 0]? fun a b => bif (↑a : Int) != 32 then some (tup [int .i64 1]) else must (inB D A) (PI.asInt .i64 B[D.toNat * 2 + 1]? fun c => need (O.R 0 98 [int .i64 c,
 int .i64 1, int .i64 1000]) fun d => asTup (some d) fun e => PI.asBool e[0]? fun f => bif !f then some (tup [int .i64 3]) else O.L 0 97 2 [true, true, true, false, true, false, true,
 false, false, true, true, true] [m] k [(0, sl A B), (3, int .i64 D), (4, int .i64 0)] []))) else some (tup [int .i64 0])
theorem E97l1 (A B D) {r : V} (h : T97l1 (orcE C) 0 0 A B D = some r) : loopE C 97 0 [true, true, true, false, true] [] [(0, sl A B), (3, int .i64 D)] [] =
 some r := ofL (j := 0) (F := fun s => T97l1 (orc C s.k) s.k s.m A B D) (fs0 fun _ _ => by kernel_rfl) (by
  unfold T97l1
  repeat' first | (with_reducible first | intro _ | exact cC | apply cN cR | apply cT | apply cI | apply cM | apply cF | apply cB | apply cL | apply cN cC | exact cR) | exact cD1 gK gM) h
def T154 (O : Orc) (k : Nat) (A : Nat) (B : List V) (D : Nat) (G : List V) : Option V := O.L 0 154 0 [true, false, true] [] k [(0, sl A B), (1, sl D G), (5, int .i64
 0)] []
theorem E154 (A B D G) {r : V} (h : T154 (orcE C) 0 A B D G = some r) : runE C 154 [sl A B, sl D G] = some r := ofR (j := 1) (F := fun s =>
 T154 (orc C s.k) s.k A B D G) (fun _ => by kernel_rfl) (by
  unfold T154
  repeat' first | with_reducible exact cC | exact cD0 gK) h
def T142 (O : Orc) (k : Nat) (A : Int) : Option V := O.L 0 142 0 [true, true, false, true] [] k [(0, int .i64 A), (3, ref 0), (4, int .i64 6)] [Ob.row 5 0 [] false]
theorem E142 (A) {r : V} (h : T142 (orcE C) 0 A = some r) : runE C 142 [int .i64 A] = some r := ofR (j := 1) (F := fun s => T142 (orc C s.k) s.k A) (fun _ => by kernel_rfl) (by
  unfold T142
  repeat' first | with_reducible exact cC | exact cD0 gK) h
def T143 (O : Orc) (k : Nat) (A : Nat) (B : List V) : Option V := O.L 0 143 0 [true, true, false, true] [] k [(0, sl A B), (3, ref 0), (4, int .i64 0)] [Ob.row 5 0 []
 false]
theorem E143 (A B) {r : V} (h : T143 (orcE C) 0 A B = some r) : runE C 143 [sl A B] = some r := ofR (j := 1) (F := fun s => T143 (orc C s.k) s.k A B) (fun _ =>
 by kernel_rfl) (by
  unfold T143
  repeat' first | with_reducible exact cC | exact cD0 gK) h
def T153 (O : Orc) (k : Nat) (A : Nat) (B : List V) (D : Nat) (G : List V) (H : Int) (I : Nat) (J : List V) (K L : Int) (M : Nat) (N : List V) : Option V :=
 need (O.R 0 194 [agg [int .i64 H, sl I J, int .i64 K, int .i64 L, sl M N]]) fun a => asTup (some a) fun b => PI.asBool b[0]? fun c => bif !c then some (tup [bool false])
 else need (O.R 0 188 [sl D G]) fun d => asTup (some d) fun e => asOsl e[0]? fun f g => O.L 0 153 0 [true, true, true, true, false, true] [] k [(0, sl A B), (5, ptr 0 0), (7, ref 1),
 (8, ref 2), (9, int .i64 0)] [Ob.box 167 [int .i64 H, sl I J, int .i64 K, int .i64 L, sl M N] false, Ob.row 2 f g false, Ob.row 5 0 [] false]
theorem E153 (A B D G H I J K L M N) {r : V} (h : T153 (orcE C) 0 A B D G H I
 J K L M N = some r) : runE C 153 [sl A B, sl D G, agg [int .i64 H, sl I J, int .i64 K, int .i64 L, sl M N]] = some r := ofR (j := 1) (F := fun s => T153 (orc C s.k) s.k A B D G H I J K L M N) (fun _ => by kernel_rfl) (by
  unfold T153
  repeat' first | (with_reducible first | intro _ | exact cC | apply cN cR | apply cT | apply cF | apply cB | apply cO | apply cN cC | exact cR) | exact cD0 gK) h
def T155l1 (O : Orc) (m : Nat) (A : Nat) (B : List V) (D G H I : Int) (J : Nat) (K : List V) (L : Nat) (M : List V) (N : Nat) (P : List V) (Q : Nat) (R : List V) : Option V := bif decide (G < (↑Q : Int)) then must (inB G Q) (PI.asInt .i64 R[G.toNat * 6 + 0]? fun a => must (inB a A) (PI.asInt .i64 B[a.toNat * 2 + 1]? fun
 b => O.L 0 155 0 [true, true, false, true] [] m [(0, sl A B), (3, ptr 0 0), (5, int .i64 (i64.wrap (D + b))), (6, int .i64 (i64.wrap (G + 1)))] [Ob.box 55 [int .i64 H,
 int .i64 I, sl J K, sl L M, sl N P, sl Q R] false])) else some (tup [int .i64 D])
theorem E155l1 (A B D G H I J K L M N P Q R) {r : V} (h :
 T155l1 (orcE C) 0 A B D G H I J K L M N P Q R = some r) : loopE C 155 0 [true, true, false, true] [] [(0, sl A B), (3, ptr 0 0), (5, int .i64 D), (6, int .i64 G)]
 [Ob.box 55 [int .i64 H, int .i64 I, sl J K, sl L M, sl N P, sl Q R] false] = some r := ofL (j := 0) (F := fun s => T155l1 (orc C s.k) s.m A B D G H I J K L
 M N P Q R) (fs0 fun _ _ => by kernel_rfl) (by
  unfold T155l1
  repeat' first | (with_reducible first | intro _ | exact cC | apply cI | apply cM | apply cF) | exact cD0 gM) h
def T156l1 (O : Orc) (m : Nat) (A : Nat) (B : List V) (D G : Int) : Option V := bif decide (G < (↑A : Int)) then must (inB G A) (PI.asInt .i64 B[G.toNat * 2 +
 1]? fun a => O.L 0 156 0 [true, true, false, true] [] m [(0, sl A B), (3, int .i64 (i64.wrap (D + a))), (4, int .i64 (i64.wrap (G + 1)))] []) else some (tup [int .i64
 D])
theorem E156l1 (A B D G) {r : V} (h : T156l1 (orcE C) 0 A B D G = some r) : loopE C 156 0 [true, true, false, true] [] [(0, sl A B), (3, int .i64
 D), (4, int .i64 G)] [] = some r := ofL (j := 0) (F := fun s => T156l1 (orc C s.k) s.m A B D G) (fs0 fun _ _ => by kernel_rfl) (by
  unfold T156l1
  repeat' first | (with_reducible first | intro _ | exact cC | apply cI | apply cM | apply cF) | exact cD0 gM) h
def T165l2 (O : Orc) (m : Nat) (A : Nat) (B : List V) (D G : Int) (H : Nat) (I : List V) (J : Nat) (K : List V) (L : Nat) (M : List V) (N : Nat) (P : List
 V) (Q R S U : Int) (W : Bool) (X : Int) (Y : Nat) (Z : List V) (A0 : Nat) (A1 : List V) (A2 : Nat) (A3 : List V) (A4 : Nat) (A5 : List V) (A6 : Nat) (A7
 : List V) (A8 : Int) (A9 : Int) (B0 : Int) (B1 : Bool) (B2 : Nat) (B3 : List V) (B4 : Int) (B5 : Nat) (B6 : List V) (B7 : Nat) (B8 : List V) (B9 : Nat) (D0 : List V) (D1 : Nat) (D2 :
 List V) : Option V := bif decide ((↑B2 : Int) > 24) then must (true && decide (1 ≤ (↑B2 : Int))) (O.L 0 165 0 [true, true, true, true, true, true, true, false] [] m [(2, sl A B), (4, ptr 0 0),
 (6, ptr 1 0), (8, ptr 7 0)] [Ob.box 55 [int .i64 D, int .i64 G, sl H I, sl J K, sl L M, sl N P] false, Ob.box 59 [int .i64 Q, int .i64 R, int .i64 S, ref 2,
 ref 3, ref 4, ref 5, int .i64 U, bool W, ref 6, int .i64 X] false, Ob.row 5 Y Z false, Ob.row 5 A0 A1 false, Ob.row 5 A2 A3 false, Ob.row 161 A4 A5 false, Ob.nrow [] 22
 A6 A7, Ob.box 52 [int .i64 A8, int .i64 A9, ref 8, ref 9, ref 10, ref 11, int .i64 B0, bool B1, sl (B2 - 1) (List.take ((B2 - 1) * 1) (List.drop 1 B3)), int .i64
 (i64.wrap (B4 + 1))] false, Ob.row 5 B5 B6 false, Ob.row 5 B7 B8 false, Ob.row 5 B9 D0 false, Ob.row 161 D1 D2 false]) else need (O.R 0 144 [agg [int .i64 D, int .i64 G, sl
 H I, sl J K, sl L M]]) fun a => asTup (some a) fun b => PI.asInt .i64 b[0]? fun c => PI.asInt .i64 b[1]? fun d => asOsl b[2]? fun e f => asOsl b[3]? fun g i => asOsl b[4]? fun
 j l => need (O.R 0 158 [sl A B]) fun n => asTup (some n) fun p => asOsl p[0]? fun v w => some (tup [int .i64 0, int .i64 c, int .i64 d, sl e f, sl g i, sl j
 l, sl v w, int .i64 B0, bool B1, sl B2 B3, int .i64 B4])
theorem E165l2 (A B D G H I J K L M N P Q R S U W X Y Z A0 A1 A2 A3 A4 A5 A6 A7 A8 A9) (B0
 : Int) (B1 : Bool) (B2 : Nat) (B3 : List V) (B4 : Int) (B5 : Nat) (B6 : List V) (B7 : Nat) (B8 : List V) (B9 : Nat) (D0 : List V) (D1 : Nat) (D2 : List V) {r : V} (h : T165l2 (orcE C) 0 A B D G H I J K L M N P Q R S U W X Y Z A0 A1 A2 A3 A4 A5 A6 A7 A8 A9 B0 B1 B2 B3 B4 B5 B6 B7 B8 B9 D0 D1 D2 = some r) : loopE C 165 0 [true,
 true, true, true, true, true, true, false] [] [(2, sl A B), (4, ptr 0 0), (6, ptr 1 0), (8, ptr 7 0)] [Ob.box 55 [int .i64 D, int .i64 G, sl H I, sl J K, sl L M, sl N
 P] false, Ob.box 59 [int .i64 Q, int .i64 R, int .i64 S, ref 2, ref 3, ref 4, ref 5, int .i64 U, bool W, ref 6, int .i64 X] false, Ob.row 5 Y Z false, Ob.row 5
 A0 A1 false, Ob.row 5 A2 A3 false, Ob.row 161 A4 A5 false, Ob.nrow [] 22 A6 A7, Ob.box 52 [int .i64 A8, int .i64 A9, ref 8, ref 9, ref 10, ref 11, int .i64 B0, bool B1,
 sl B2 B3, int .i64 B4] false, Ob.row 5 B5 B6 false, Ob.row 5 B7 B8 false, Ob.row 5 B9 D0 false, Ob.row 161 D1 D2 false] = some r := ofL (j := 0) (F := fun s => T165l2 (orc C s.k) s.m A B D G H I J K L M N P Q R S U W X Y Z A0 A1 A2 A3 A4 A5 A6 A7 A8 A9 B0 B1 B2 B3 B4 B5 B6 B7 B8 B9 D0 D1 D2) (fs0 fun _ _ => by
 kernel_rfl) (by
  unfold T165l2
  repeat' first | (with_reducible first | intro _ | exact cC | apply cN cR | apply cT | apply cI | apply cM | apply cF | apply cO | apply cN cC | exact cR) | exact cD0 gM) h
def T157l1 (O : Orc) (k m : Nat) (A : Nat) (B : List V) (D : Nat) (G : List V) (H I J K : Int) (L : Nat) (M : List V) (N : Nat) (P : List V) (Q : Nat) (R : List V) (S : Nat) (U : List V) : Option V := bif decide (I < (↑S : Int)) then must (inB I S) (PI.asInt .i64 U[I.toNat * 6 + 0]? fun a => must (inB a A) (must (decide
 (a.toNat * 2 + 0 < B.length)) (O.L 0 157 2 [true, true, false, true, false, true, false, false, true, true] [m] k [(0, sl A B), (1, sl D G), (5, ptr 0 0), (7, int .i64 H), (8, int
 .i64 I), (9, V.prj B (a.toNat * 2 + 0)), (10, int .i64 0)] [Ob.box 55 [int .i64 J, int .i64 K, sl L M, sl N P, sl Q R, sl S U] false]))) else some (tup [int .i64
 H])
theorem E157l1 (A B D G H I J K L M N P Q R S U) {r : V} (h : T157l1 (orcE C) 0 0 A B D G H I J K L M N P Q R S U = some r) : loopE C 157 0 [true, true, false, true] [] [(0, sl A B), (1, sl D G), (5,
 ptr 0 0), (7, int .i64 H), (8, int .i64 I)] [Ob.box 55 [int .i64 J, int .i64 K, sl L M, sl N P, sl Q R, sl S U] false] = some r := ofL (j := 0) (F := fun s =>
 T157l1 (orc C s.k) s.k s.m A B D G H I J K L M N P Q R S U) (fs0 fun _ _ => by kernel_rfl) (by
  unfold T157l1
  repeat' first | (with_reducible first | intro _ | exact cC | apply cI | apply cM | apply cF) | exact cD1 gK gM) h
def T133l1 (O : Orc) (m : Nat) (A B : Int) (D : Nat) (G : List V) : Option V := bif decide (B ≥ 0) then must (inB B D) (must ([int .u8 (u8.wrap
 A)].length.beq 1 && (B.toNat * 1 + [int .u8 (u8.wrap A)].length).ble G.length) (O.L 0 133 0 [true, true, false, true] [] m [(0, int .i64 (A.fdiv 256)), (3, ref 0), (4, int .i64
 (i64.wrap (B - 1)))] [Ob.row 5 D (splice G (B.toNat * 1) [int .u8 (u8.wrap A)]) false])) else some (tup [sl D G])
theorem E133l1 (A B D G) {r : V} (h : T133l1 (orcE C) 0 A B D G = some r) : loopE C 133 0 [true, true, false, true] [] [(0, int .i64 A), (3, ref 0),
 (4, int .i64 B)] [Ob.row 5 D G false] = some r := ofL (j := 0) (F := fun s => T133l1 (orc C s.k) s.m A B D G) (fs0 fun _ _ => by kernel_rfl) (by
  unfold T133l1
  repeat' first | (with_reducible first | intro _ | exact cC | apply cM | apply cF) | exact cD0 gM) h
def T183 (O : Orc) (k : Nat) (A : Nat) (B : List V) : Option V := bif decide ((↑A : Int) > 60) then some (tup [sl 0 [], bool false]) else O.L 0 183 0 [true, true, true,
 false, true] [] k [(4, ref 0), (11, sl A B), (12, int .i64 (↑A : Int)), (13, int .i64 0)] [Ob.row 5 0 [] false]
theorem E183 (A B) {r : V} (h : T183 (orcE C) 0 A B = some r) : runE C 183 [sl A B] = some r := ofR (j := 1) (F := fun s => T183 (orc C s.k) s.k A B) (fun _ =>
 by kernel_rfl) (by
  unfold T183
  repeat' first | (with_reducible first | intro _ | exact cC | apply cF) | exact cD0 gK) h
def T130 (O : Orc) (k : Nat) (A : Nat) (B : List V) : Option V := O.L 0 130 0 [true, true, false, true] [] k [(3, ref 0), (13, sl A B), (14, int .i64 (↑A : Int)), (15,
 int .i64 0)] [Ob.row 5 0 [] false]
theorem E130 (A B) {r : V} (h : T130 (orcE C) 0 A B = some r) : runE C 130 [sl A B] = some r := ofR (j := 1) (F := fun s => T130 (orc C s.k) s.k A B) (fun _ =>
 by kernel_rfl) (by
  unfold T130
  repeat' first | with_reducible exact cC | exact cD0 gK) h
def T191 (O : Orc) (A : Int) (B : Nat) (D : List V) (G H : Int) (I : Nat) (J : List V) : Option V := need (O.R 0 219 [int .i64 A]) fun a => asTup
 (some a) fun b => PI.asBool b[0]? fun c => bif c then bif (↑B : Int) == 19 then bif G == A then some (tup [bool (H == 4)]) else some (tup [bool false]) else some (tup [bool
 false]) else some (tup [bool false])
theorem E191 (A B D G H I J) {r : V} (h : T191 (orcE C) A B D G H I J = some r) : runE C 191 [agg [int .i64 A,
 sl B D, int .i64 G, int .i64 H, sl I J]] = some r := ofR (j := 1) (F := fun s => T191 (orc C s.k) A B D G H I J) (fun _ => by kernel_rfl) (by
  unfold T191
  repeat' first | (with_reducible first | intro _ | exact cC | apply cN cR | apply cT | apply cF | apply cB | apply cN cC | exact cR)) h
def T192 (O : Orc) (k : Nat) (A : Nat) (B : List V) : Option V := need (O.R 0 147 [str { data := #[(109 : UInt8), (101 : UInt8), (115 : UInt8), (115 : UInt8), (97 : UInt8),
 (103 : UInt8), (101 : UInt8)] }, sl 1 [sl A B]]) fun a => asTup (some a) fun b => asOsl b[0]? fun c d => must (true && decide (4 ≤ (↑c : Int))) (O.L 0 192 0 [true, true, false, true] [] k
 [(3, ref 0), (4, int .i64 0), (13, sl 4 (List.take 4 (List.drop 0 d))), (14, int .i64 4), (15, int .i64 0)] [Ob.row 2 0 [] false])
theorem E192 (A B) {r : V} (h : T192 (orcE C) 0 A B = some r) : runE C 192 [sl A B] = some r := ofR (j := 1) (F := fun s => T192 (orc C s.k) s.k A B) (fun _ =>
 by kernel_rfl) (by
  unfold T192
  repeat' first | (with_reducible first | intro _ | exact cC | apply cN cR | apply cT | apply cM | apply cO | apply cN cC | exact cR) | exact cD0 gK) h
def T146l1 (O : Orc) (m : Nat) (A : Nat) (B : List V) (D G H : Int) (I : Nat) (J : List V) (K L : Int) (M : Nat) (N : List V) (P : Nat) (Q
 : List V) (R : Nat) (S : List V) : Option V := bif decide (G < D) then must (inB G R) (PI.asInt .i64 S[G.toNat * 1]? fun a => must (inB G I) (must (decide (G.toNat * 1 < J.length))
 (asSl J[G.toNat * 1]? fun b c => need (O.R 0 193 [sl b c, int .i64 (i64.wrap (3 - a))]) fun d => asTup (some d) fun e => asOsl e[0]? fun f g => must (decide (g.length = f *
 1)) (must (true && (P + f).ble 140737488355328 && ((P + f) * 1).ble 140737488355328) (O.L 0 146 0 [true, true, true, false, true] [] m [(0, sl A B), (5, ptr 0 0), (7, ref 1), (21, ref
 2), (22, int .i64 D), (23, int .i64 (i64.wrap (G + 1)))] [Ob.box 167 [int .i64 H, sl I J, int .i64 K, int .i64 L, sl M N] false, Ob.row 5 (P + f) (Q ++ g) false,
 Ob.row 2 R S false]))))) else need (O.R 0 162 [sl A B, sl P Q, agg [int .i64 K, int .i64 L, sl M N]]) fun i => asTup (some i) fun j => PI.asBool j[0]? fun l => some
 (tup [bool l])
theorem E146l1 (A B D G H I J K L M N P Q R S) {r : V} (h : T146l1 (orcE C) 0 A B D G H I J K L M N P Q R S = some r) : loopE C 146 0 [true, true, true, false, true] [] [(0, sl A B), (5, ptr 0 0), (7, ref 1),
 (21, ref 2), (22, int .i64 D), (23, int .i64 G)] [Ob.box 167 [int .i64 H, sl I J, int .i64 K, int .i64 L, sl M N] false, Ob.row 5 P Q false, Ob.row 2 R S false] =
 some r := ofL (j := 0) (F := fun s => T146l1 (orc C s.k) s.m A B D G H I J K L M N P Q R S) (fs0 fun _ _ => by kernel_rfl) (by
  unfold T146l1
  repeat' first | (with_reducible first | intro _ | exact cC | apply cN cR | apply cT | apply cI | apply cM | apply cF | apply cB | apply cL | apply cO | apply cN cC | exact cR) | exact cD0 gM) h
def T167s2 (O : Orc) (k : Nat) (A : Nat) (B : List V) : Option V := O.L 0 167 0 [true, false, true] [] k [(0, sl A B), (1, fn 181 []), (7, int .i64 (↑A : Int)), (8,
 int .i64 0)] []
theorem E167s2 (A B) {r : V} (h : T167s2 (orcE C) 0 A B = some r) : runE C 167 [sl A B, fn 181 []] = some r := ofR (j := 1) (F := fun s => T167s2 (orc C s.k) s.k A B) (fun _ => by kernel_rfl) (by
  unfold T167s2
  repeat' first | with_reducible exact cC | exact cD0 gK) h
def T200 (O : Orc) (k : Nat) (A : Nat) (B : List V) (D : Nat) (G : List V) : Option V := O.L 0 200 0 [true, false, true] [] k [(0, sl A B), (1, fn 201 [pin [sl D
 G] 0]), (7, int .i64 (↑A : Int)), (8, int .i64 0)] []
theorem E200 (A B D G) {r : V} (h : T200 (orcE C) 0 A B D G = some r) : runE C 200 [sl A B, fn 201 [pin [sl D G] 0]] = some r := ofR (j :=
 1) (F := fun s => T200 (orc C s.k) s.k A B D G) (fun _ => by kernel_rfl) (by
  unfold T200
  repeat' first | with_reducible exact cC | exact cD0 gK) h
def T105 (O : Orc) (A : Nat) (B : List V) : Option V := bif decide ((↑A : Int) > 0) then need (O.R 0 106 [sl A B]) fun a => asTup (some a) fun b => PI.asBool
 b[0]? fun c => some (tup [bool !c]) else some (tup [bool false])
theorem E105 (A B) {r : V} (h : T105 (orcE C) A B = some r) : runE C 105 [sl A B] = some r := ofR (j := 1) (F := fun s => T105 (orc C s.k) A B) (fun _ =>
 by kernel_rfl) (by
  unfold T105
  repeat' first | (with_reducible first | intro _ | exact cC | apply cN cR | apply cT | apply cF | apply cB | apply cN cC | exact cR)) h
def T137l1 (O : Orc) (m : Nat) (A : Nat) (B : List V) (D : Int) (G : Nat) (H : List V) : Option V := bif decide (D < 4) then need (O.R 0 185 [sl A B, int .i64 D]) fun
 a => asTup (some a) fun b => asOsl b[0]? fun c d => must (d.all flatV) (must (true && (G + 1).ble 140737488355328 && ((G + 1) * 24).ble 140737488355328) (O.L 0 137 0 [true, true, false, true]
 [] m [(0, sl A B), (3, ref 0), (4, int .i64 (i64.wrap (D + 1)))] [Ob.nrow [] 22 (G + 1) (H ++ [own false 5 1 c d])])) else some (tup [osl G H])
theorem E137l1 (A B D G H) {r : V} (h : T137l1 (orcE C) 0 A B D G H = some r) : loopE C 137 0 [true, true, false, true] [] [(0, sl A B),
 (3, ref 0), (4, int .i64 D)] [Ob.nrow [] 22 G H] = some r := ofL (j := 0) (F := fun s => T137l1 (orc C s.k) s.m A B D G H) (fs0 fun _ _ => by kernel_rfl) (by
  unfold T137l1
  repeat' first | (with_reducible first | intro _ | exact cC | apply cN cR | apply cT | apply cM | apply cF | apply cO | apply cN cC | exact cR) | exact cD0 gM) h
def T186 (O : Orc) (k : Nat) (A : Nat) (B : List V) : Option V := need (O.R 0 212 []) fun a => PI.asAgg (some a) fun b => must (b.length.beq 64 && true && (0 +
 b.length).ble 64 && flatB C 217 b) (need (O.R 0 213 []) fun c => asTup (some c) fun d => PI.asInt .i64 d[0]? fun e => PI.asInt .i64 d[1]? fun f => PI.asInt .i64 d[2]? fun g => PI.asInt .i64
 d[3]? fun i => PI.asInt .i64 d[4]? fun j => PI.asInt .i64 d[5]? fun l => PI.asInt .i64 d[6]? fun n => PI.asInt .i64 d[7]? fun p => need (O.R 0 214 [sl A B]) fun v => asTup (some
 v) fun w => asSl w[0]? fun x y => O.L 0 186 0 [true, true, true, true, false, true] [] k [(3, ptr 0 0), (4, ptr 1 0), (5, sl x y), (6, int .i64 0)] [Ob.box 217 (splice [int
 .i64 0, int .i64 0, int .i64 0, int .i64 0, int .i64 0, int .i64 0, int .i64 0, int .i64 0, int .i64 0, int .i64 0, int .i64 0, int .i64 0, int .i64 0, int .i64 0, int .i64
 0, int .i64 0, int .i64 0, int .i64 0, int .i64 0, int .i64 0, int .i64 0, int .i64 0, int .i64 0, int .i64 0, int .i64 0, int .i64 0, int .i64 0, int .i64 0, int .i64 0,
 int .i64 0, int .i64 0, int .i64 0, int .i64 0, int .i64 0, int .i64 0, int .i64 0, int .i64 0, int .i64 0, int .i64 0, int .i64 0, int .i64 0, int .i64 0, int .i64 0,
 int .i64 0, int .i64 0, int .i64 0, int .i64 0, int .i64 0, int .i64 0, int .i64 0, int .i64 0, int .i64 0, int .i64 0, int .i64 0, int .i64 0, int .i64 0, int .i64 0,
 int .i64 0, int .i64 0, int .i64 0, int .i64 0, int .i64 0, int .i64 0, int .i64 0] 0 b) false, Ob.box 219 [int .i64 e, int .i64 f, int .i64 g, int .i64 i, int .i64 j,
 int .i64 l, int .i64 n, int .i64 p] false])
theorem E186 (A B) {r : V} (h : T186 (orcE C) 0 A B = some r) : runE C 186 [sl A B] = some r := ofR (j := 1) (F := fun s => T186 (orc C s.k) s.k A B) (fun _ =>
 by kernel_rfl) (by
  unfold T186
  repeat' first | (with_reducible first | intro _ | exact cC | apply cN cR | apply cT | apply cI | apply cM | apply cL | apply cA | apply cN cC | exact cR) | exact cD0 gK) h
def T140l1 (O : Orc) (m : Nat) (A B : Int) : Option V := bif decide (i64.wrap (2 * B) < A) then O.L 0 140 0 [true, true, false] [] m [(0, int .i64 A), (3,
 int .i64 (i64.wrap (2 * B)))] [] else some (tup [int .i64 B])
theorem E140l1 (A B) {r : V} (h : T140l1 (orcE C) 0 A B = some r) : loopE C 140 0 [true, true, false] [] [(0, int .i64 A), (3, int .i64 B)] [] = some r := ofL (j := 0) (F
 := fun s => T140l1 (orc C s.k) s.m A B) (fs0 fun _ _ => by kernel_rfl) (by
  unfold T140l1
  repeat' first | (with_reducible first | intro _ | exact cC | apply cF) | exact cD0 gM) h
def T145 (O : Orc) (k : Nat) (A : Nat) (B : List V) (D : Int) (G : Nat) (H : List V) : Option V := need (O.R 0 137 [sl A B]) fun a => asTup (some a) fun b => asOsl
 b[0]? fun c d => need (O.R 0 187 [sl c (bareL d), int .i64 D]) fun e => asTup (some e) fun f => PI.asInt .i64 f[0]? fun g => PI.asInt .i64 f[1]? fun i => asOsl f[2]? fun j l =>
 need (O.R 0 188 [sl G H]) fun n => asTup (some n) fun p => asOsl p[0]? fun v w => O.L 0 145 0 [true, true, true, false, true] [] k [(0, sl A B), (1, int .i64 D), (6, ptr 0 0),
 (7, ptr 3 0), (8, ref 6), (9, int .i64 0)] [Ob.box 167 [int .i64 0, ref 1, int .i64 0, int .i64 0, ref 2] false, Ob.nrow [] 22 0 [], Ob.nrow [] 22 0 [], Ob.box 167 [int .i64 D,
 ref 4, int .i64 g, int .i64 i, ref 5] false, Ob.nrow [] 22 0 [], Ob.nrow [] 22 j l, Ob.row 2 v w false]
theorem E145 (A B D G H) {r : V} (h : T145 (orcE C) 0 A B D G H = some r) : runE C 145 [sl A B, int .i64 D, sl G H] = some r :=
 ofR (j := 1) (F := fun s => T145 (orc C s.k) s.k A B D G H) (fun _ => by kernel_rfl) (by
  unfold T145
  repeat' first | (with_reducible first | intro _ | exact cC | apply cN cR | apply cT | apply cI | apply cO | apply cN cC | exact cR) | exact cD0 gK) h
def T158l1 (O : Orc) (m : Nat) (A : Nat) (B : List V) (D : Int) (G : Nat) (H : List V) : Option V := bif decide (D < (↑A : Int)) then must (inB D A) (must (decide
 (D.toNat * 2 + 0 < B.length)) (must (inB D A) (PI.asInt .i64 B[D.toNat * 2 + 1]? fun a => asSl B[D.toNat * 2 + 0]? fun b c => must (decide (c.length = b * 1)) (must (true && (0 + b).ble
 140737488355328 && ((0 + b) * 1).ble 140737488355328) (must (true && (G + 1).ble 140737488355328 && ((G + 1) * 32).ble 140737488355328) (O.L 0 158 0 [true, true, false, true] [] m [(0, sl A B),
 (3, ref 0), (4, int .i64 (i64.wrap (D + 1)))] [Ob.row 161 (G + 1) (H ++ [sl (0 + b) c, int .i64 a]) false])))))) else some (tup [osl G H])
theorem E158l1 (A B D G H) {r : V} (h : T158l1 (orcE C) 0 A B D G H = some r) : loopE C 158 0 [true, true, false, true] [] [(0, sl A B),
 (3, ref 0), (4, int .i64 D)] [Ob.row 161 G H false] = some r := ofL (j := 0) (F := fun s => T158l1 (orc C s.k) s.m A B D G H) (fs0 fun _ _ => by kernel_rfl) (by
  unfold T158l1
  repeat' first | (with_reducible first | intro _ | exact cC | apply cI | apply cM | apply cF | apply cL) | exact cD0 gM) h
def T159l1 (O : Orc) (m : Nat) (A : Nat) (B : List V) (D : Int) (G : Nat) (H : List V) : Option V := bif decide (D < (↑A : Int)) then must (inB D A) (must (decide
 (D.toNat * 1 < B.length)) (asSl B[D.toNat * 1]? fun a b => must (decide (b.length = a * 1)) (must (true && (0 + a).ble 140737488355328 && ((0 + a) * 1).ble 140737488355328) (must (true &&
 (G + 1).ble 140737488355328 && ((G + 1) * 24).ble 140737488355328) (O.L 0 159 0 [true, true, false, true] [] m [(0, sl A B), (3, ref 0), (4, int .i64 (i64.wrap (D + 1)))] [Ob.row 22
 (G + 1) (H ++ [sl (0 + a) b]) false]))))) else some (tup [osl G H])
theorem E159l1 (A B D G H) {r : V} (h : T159l1 (orcE C) 0 A B D G H = some r) : loopE C 159 0 [true, true, false, true] [] [(0, sl A B),
 (3, ref 0), (4, int .i64 D)] [Ob.row 22 G H false] = some r := ofL (j := 0) (F := fun s => T159l1 (orc C s.k) s.m A B D G H) (fs0 fun _ _ => by kernel_rfl) (by
  unfold T159l1
  repeat' first | (with_reducible first | intro _ | exact cC | apply cM | apply cF | apply cL) | exact cD0 gM) h
def T150 (O : Orc) (A B : Int) (D : Nat) (G : List V) (H : Nat) (I : List V) (J : Nat) (K : List V) : Option V := both (both (need (O.R 0 110 [sl D
 G]) fun a => asTup (some a) fun b => asOsl b[0]? fun c d => both (both (need (O.R 0 110 [sl H I]) fun e => asTup (some e) fun f => asOsl f[0]? fun g i => need (O.R 0 110 [sl J K])
 fun j => asTup (some j) fun l => asOsl l[0]? fun n p => must (false || d.all flatV) (must (false || i.all flatV) (must (false || p.all flatV) (some (tup [int .i64 A, int .i64 B,
 osl c d, osl g i, osl n p]))))) (need (O.R 0 110 [sl H I]) fun v => asTup (some v) fun w => asOsl w[0]? fun x y => need (O.R 0 110 [sl J K]) fun z => asTup (some
 z) fun a0 => asOsl a0[0]? fun a1 a2 => must (false || d.all flatV) (must (false || y.all flatV) (must (false || a2.all flatV) (some (tup [int .i64 A, int .i64 B, osl c d, osl
 x y, osl a1 a2])))))) (need (O.R 0 110 [sl H I]) fun a3 => asTup (some a3) fun a4 => asOsl a4[0]? fun a5 a6 => need (O.R 0 110 [sl J K]) fun a7 => asTup (some a7) fun a8 =>
 asOsl a8[0]? fun a9 b0 => must (false || d.all flatV) (must (false || a6.all flatV) (must (false || b0.all flatV) (some (tup [int .i64 A, int .i64 B, osl c d, osl a5 a6, osl
 a9 b0])))))) (both (both (need (O.R 0 110 [sl D G]) fun b1 => asTup (some b1) fun b2 => asOsl b2[0]? fun b3 b4 => both (need (O.R 0 110 [sl H I]) fun b5 => asTup (some b5) fun b6 =>
 asOsl b6[0]? fun b7 b8 => need (O.R 0 110 [sl J K]) fun b9 => asTup (some b9) fun c0 => asOsl c0[0]? fun c1 c2 => must (false || b4.all flatV) (must (false || b8.all flatV) (must (false
 || c2.all flatV) (some (tup [int .i64 A, int .i64 B, osl b3 b4, osl b7 b8, osl c1 c2]))))) (need (O.R 0 110 [sl H I]) fun c3 => asTup (some c3) fun c4 => asOsl c4[0]? fun
 c5 c6 => need (O.R 0 110 [sl J K]) fun c7 => asTup (some c7) fun c8 => asOsl c8[0]? fun c9 d0 => must (false || b4.all flatV) (must (false || c6.all flatV) (must (false || d0.all flatV)
 (some (tup [int .i64 A, int .i64 B, osl b3 b4, osl c5 c6, osl c9 d0])))))) (need (O.R 0 110 [sl D G]) fun d1 => asTup (some d1) fun d2 => asOsl d2[0]? fun d3 d4 => need
 (O.R 0 110 [sl H I]) fun d5 => asTup (some d5) fun d6 => asOsl d6[0]? fun d7 d8 => need (O.R 0 110 [sl J K]) fun d9 => asTup (some d9) fun e0 => asOsl e0[0]? fun e1 e2 => must
 (false || d4.all flatV) (must (false || d8.all flatV) (must (false || e2.all flatV) (some (tup [int .i64 A, int .i64 B, osl d3 d4, osl d7 d8, osl e1 e2])))))) (both (need (O.R 0
 110 [sl D G]) fun e3 => asTup (some e3) fun e4 => asOsl e4[0]? fun e5 e6 => need (O.R 0 110 [sl H I]) fun e7 => asTup (some e7) fun e8 => asOsl e8[0]? fun e9 f0 => need (O.R 0 110
 [sl J K]) fun f1 => asTup (some f1) fun f2 => asOsl f2[0]? fun f3 f4 => must (false || e6.all flatV) (must (false || f0.all flatV) (must (false || f4.all flatV) (some (tup [int .i64
 A, int .i64 B, osl e5 e6, osl e9 f0, osl f3 f4]))))) (need (O.R 0 110 [sl D G]) fun f5 => asTup (some f5) fun f6 => asOsl f6[0]? fun f7 f8 => need (O.R 0 110 [sl H I])
 fun f9 => asTup (some f9) fun g0 => asOsl g0[0]? fun g1 g2 => need (O.R 0 110 [sl J K]) fun g3 => asTup (some g3) fun g4 => asOsl g4[0]? fun g5 g6 => must (false || f8.all flatV)
 (must (false || g2.all flatV) (must (false || g6.all flatV) (some (tup [int .i64 A, int .i64 B, osl f7 f8, osl g1 g2, osl g5 g6])))))))) (both (both (both (need (O.R 0 110 [sl
 D G]) fun g7 => asTup (some g7) fun g8 => asOsl g8[0]? fun g9 h0 => both (need (O.R 0 110 [sl H I]) fun h1 => asTup (some h1) fun h2 => asOsl h2[0]? fun h3 h4 => need (O.R 0 110
 [sl J K]) fun h5 => asTup (some h5) fun h6 => asOsl h6[0]? fun h7 h8 => must (false || h0.all flatV) (must (false || h4.all flatV) (must (false || h8.all flatV) (some (tup [int .i64
 A, int .i64 B, osl g9 h0, osl h3 h4, osl h7 h8]))))) (need (O.R 0 110 [sl H I]) fun h9 => asTup (some h9) fun i0 => asOsl i0[0]? fun i1 i2 => need (O.R 0 110 [sl J K])
 fun i3 => asTup (some i3) fun i4 => asOsl i4[0]? fun i5 i6 => must (false || h0.all flatV) (must (false || i2.all flatV) (must (false || i6.all flatV) (some (tup [int .i64 A,
 int .i64 B, osl g9 h0, osl i1 i2, osl i5 i6])))))) (need (O.R 0 110 [sl D G]) fun i7 => asTup (some i7) fun i9 => asOsl i9[0]? fun j0 j1 => need (O.R 0 110 [sl H
 I]) fun j2 => asTup (some j2) fun j3 => asOsl j3[0]? fun j4 j5 => need (O.R 0 110 [sl J K]) fun j6 => asTup (some j6) fun j7 => asOsl j7[0]? fun j8 j9 => must (false ||
 j1.all flatV) (must (false || j5.all flatV) (must (false || j9.all flatV) (some (tup [int .i64 A, int .i64 B, osl j0 j1, osl j4 j5, osl j8 j9])))))) (need (O.R 0 110
 [sl D G]) fun l0 => asTup (some l0) fun l1 => asOsl l1[0]? fun l2 l3 => need (O.R 0 110 [sl H I]) fun l4 => asTup (some l4) fun l5 => asOsl l5[0]? fun l6 l7 => need
 (O.R 0 110 [sl J K]) fun l8 => asTup (some l8) fun l9 => asOsl l9[0]? fun n0 n1 => must (false || l3.all flatV) (must (false || l7.all flatV) (must (false || n1.all flatV) (some
 (tup [int .i64 A, int .i64 B, osl l2 l3, osl l6 l7, osl n0 n1])))))) (both (both (need (O.R 0 110 [sl D G]) fun n2 => asTup (some n2) fun n3 => asOsl n3[0]? fun
 n4 n5 => need (O.R 0 110 [sl H I]) fun n6 => asTup (some n6) fun n7 => asOsl n7[0]? fun n8 n9 => need (O.R 0 110 [sl J K]) fun p0 => asTup (some p0) fun p1 => asOsl
 p1[0]? fun p2 p3 => must (false || n5.all flatV) (must (false || n9.all flatV) (must (false || p3.all flatV) (some (tup [int .i64 A, int .i64 B, osl n4 n5, osl n8 n9,
 osl p2 p3]))))) (need (O.R 0 110 [sl D G]) fun p4 => asTup (some p4) fun p5 => asOsl p5[0]? fun p6 p7 => need (O.R 0 110 [sl H I]) fun p8 => asTup (some p8) fun p9 =>
 asOsl p9[0]? fun v0 v1 => need (O.R 0 110 [sl J K]) fun v2 => asTup (some v2) fun v3 => asOsl v3[0]? fun v4 v5 => must (false || p7.all flatV) (must (false || v1.all flatV)
 (must (false || v5.all flatV) (some (tup [int .i64 A, int .i64 B, osl p6 p7, osl v0 v1, osl v4 v5])))))) (need (O.R 0 110 [sl D G]) fun v6 => asTup (some v6) fun
 v7 => asOsl v7[0]? fun v8 v9 => need (O.R 0 110 [sl H I]) fun w0 => asTup (some w0) fun w1 => asOsl w1[0]? fun w2 w3 => need (O.R 0 110 [sl J K]) fun w4 => asTup (some
 w4) fun w5 => asOsl w5[0]? fun w6 w7 => must (false || v9.all flatV) (must (false || w3.all flatV) (must (false || w7.all flatV) (some (tup [int .i64 A, int .i64 B, osl v8
 v9, osl w2 w3, osl w6 w7])))))))
theorem E150 (A B D G H I J K) {r : V} (h : T150 (orcE C) A B D G H I J K = some r) : runE C 150 [agg
 [int .i64 A, int .i64 B, sl D G, sl H I, sl J K]] = some r := ofR (j := 1) (F := fun s => T150 (orc C s.k) A B D G H I J K) (fun _ => by kernel_rfl) (by
  unfold T150
  repeat' first | (with_reducible first | intro _ | exact cC | apply cN cR | apply cT | apply cM | apply cO | apply cN cC | apply cW | exact cR)) h
def T151 (O : Orc) (k : Nat) (A : Nat) (B : List V) : Option V := O.L 0 151 0 [true, true, false, true] [] k [(3, ref 0), (7, sl A B), (8, int .i64 (↑A : Int)), (9,
 int .i64 0)] [Ob.nrow [] 161 0 []]
theorem E151 (A B) {r : V} (h : T151 (orcE C) 0 A B = some r) : runE C 151 [sl A B] = some r := ofR (j := 1) (F := fun s => T151 (orc C s.k) s.k A B) (fun _ =>
 by kernel_rfl) (by
  unfold T151
  repeat' first | with_reducible exact cC | exact cD0 gK) h
def T152 (O : Orc) (k : Nat) (A : Nat) (B : List V) : Option V := O.L 0 152 0 [true, true, false, true] [] k [(3, ref 0), (7, sl A B), (8, int .i64 (↑A : Int)), (9,
 int .i64 0)] [Ob.nrow [] 22 0 []]
theorem E152 (A B) {r : V} (h : T152 (orcE C) 0 A B = some r) : runE C 152 [sl A B] = some r := ofR (j := 1) (F := fun s => T152 (orc C s.k) s.k A B) (fun _ =>
 by kernel_rfl) (by
  unfold T152
  repeat' first | with_reducible exact cC | exact cD0 gK) h
def T97l2 (O : Orc) (m q0 : Nat) (A : Nat) (B : List V) (D G : Int) : Option V := bif decide (G < D) then must (inB G A) (must (decide (G.toNat * 2 + 0 < B.length))
 (must (inB D A) (must (decide (D.toNat * 2 + 0 < B.length)) (asSl B[G.toNat * 2 + 0]? fun a b => asSl B[D.toNat * 2 + 0]? fun c d => need (O.R 0 82 [sl a b, sl c d]) fun e =>
 asTup (some e) fun f => PI.asBool f[0]? fun g => bif g then some (tup [int .i64 7]) else O.L 0 97 2 [true, true, true, false, true, false, true, false, false, true, true, true] [q0] m [(0,
 sl A B), (3, int .i64 D), (4, int .i64 (i64.wrap (G + 1)))] [])))) else O.L 0 97 0 [true, true, true, false, true] [] q0 [(0, sl A B), (3, int .i64 (i64.wrap (D +
 1)))] []
theorem E97l2 (A B D G) {r : V} (h : T97l2 (orcE C) 0 0 A B D G = some r) : loopE C 97 2 [true, true, true, false, true, false, true, false, false, true,
 true, true] [0] [(0, sl A B), (3, int .i64 D), (4, int .i64 G)] [] = some r := ofL (j := 0) (F := fun s => T97l2 (orc C s.k) s.m (s.fs.getD 0 0) A B D G) (fs1 fun _ _ _ => by
 kernel_rfl) (by
  unfold T97l2
  repeat' first | (with_reducible first | intro _ | exact cC | apply cN cR | apply cT | apply cM | apply cF | apply cB | apply cL | apply cN cC | exact cR) | exact cD0 (gF (i := 0) (by decide)) | exact cD1 gM (gF (i := 0) (by decide))) h
def T154l1 (O : Orc) (m : Nat) (A : Nat) (B : List V) (D : Nat) (G : List V) (H : Int) : Option V := bif decide (H < (↑A : Int)) then bif decide (H < (↑D : Int)) then
 must (inB H A) (PI.asInt .u8 B[H.toNat * 1]? fun a => must (inB H D) (PI.asInt .u8 G[H.toNat * 1]? fun b => bif decide (a < b) then some (tup [int .i64 (-1)]) else must (inB H A)
 (PI.asInt .u8 B[H.toNat * 1]? fun c => must (inB H D) (PI.asInt .u8 G[H.toNat * 1]? fun d => bif decide (c > d) then some (tup [int .i64 1]) else O.L 0 154 0 [true, false, true] [] m
 [(0, sl A B), (1, sl D G), (5, int .i64 (i64.wrap (H + 1)))] [])))) else bif decide ((↑A : Int) < (↑D : Int)) then some (tup [int .i64 (-1)]) else bif decide ((↑A : Int) >
 (↑D : Int)) then some (tup [int .i64 1]) else some (tup [int .i64 0]) else bif decide ((↑A : Int) < (↑D : Int)) then some (tup [int .i64 (-1)]) else bif decide ((↑A : Int) > (↑D :
 Int)) then some (tup [int .i64 1]) else some (tup [int .i64 0])
theorem E154l1 (A B D G H) {r : V} (h : T154l1 (orcE C) 0 A B D G H = some r) : loopE C 154 0 [true, false, true] [] [(0, sl A B), (1,
 sl D G), (5, int .i64 H)] [] = some r := ofL (j := 0) (F := fun s => T154l1 (orc C s.k) s.m A B D G H) (fs0 fun _ _ => by kernel_rfl) (by
  unfold T154l1
  repeat' first | (with_reducible first | intro _ | exact cC | apply cI | apply cM | apply cF) | exact cD0 gM) h
def T142l1 (O : Orc) (m : Nat) (A B : Int) (D : Nat) (G : List V) : Option V := bif decide (B ≥ 0) then must (decide (0 ≤ u64.wrap (i64.wrap (8 *
 B)))) (must (true && (D + 1).ble 140737488355328 && ((D + 1) * 1).ble 140737488355328) (O.L 0 142 0 [true, true, false, true] [] m [(0, int .i64 A), (3, ref 0), (4, int .i64
 (i64.wrap (B - 1)))] [Ob.row 5 (D + 1) (G ++ [int .u8 (u8.wrap (A.fdiv (2 ^ min (u64.wrap (i64.wrap (8 * B))).toNat 64)))]) false])) else some (tup [sl D
 G])
theorem E142l1 (A B D G) {r : V} (h : T142l1 (orcE C) 0 A B D G = some r) : loopE C 142 0 [true, true, false, true] [] [(0, int .i64 A), (3, ref 0),
 (4, int .i64 B)] [Ob.row 5 D G false] = some r := ofL (j := 0) (F := fun s => T142l1 (orc C s.k) s.m A B D G) (fs0 fun _ _ => by kernel_rfl) (by
  unfold T142l1
  repeat' first | (with_reducible first | intro _ | exact cC | apply cM | apply cF) | exact cD0 gM) h
def T143l1 (O : Orc) (m : Nat) (A : Nat) (B : List V) (D : Int) (G : Nat) (H : List V) : Option V := bif decide (D < (↑A : Int)) then must (inB D A) (must (decide
 (D.toNat * 1 < B.length)) (asSl B[D.toNat * 1]? fun a b => must (inB D A) (must (decide (D.toNat * 1 < B.length)) (must (true && (G + 1).ble 140737488355328 && ((G + 1) * 1).ble
 140737488355328) (asSl B[D.toNat * 1]? fun c d => must (decide (d.length = c * 1)) (must (true && (G + 1 + c).ble 140737488355328 && ((G + 1 + c) * 1).ble 140737488355328) (O.L 0 143 0
 [true, true, false, true] [] m [(0, sl A B), (3, ref 0), (4, int .i64 (i64.wrap (D + 1)))] [Ob.row 5 (G + 1 + c) (H ++ [int .u8 (u8.wrap (↑a : Int))] ++ d)
 false]))))))) else must (false || H.all flatV) (some (tup [osl G H]))
theorem E143l1 (A B D G H) {r : V} (h : T143l1 (orcE C) 0 A B D G H = some r) : loopE C 143 0 [true, true, false, true] [] [(0, sl A B),
 (3, ref 0), (4, int .i64 D)] [Ob.row 5 G H false] = some r := ofL (j := 0) (F := fun s => T143l1 (orc C s.k) s.m A B D G H) (fs0 fun _ _ => by kernel_rfl) (by
  unfold T143l1
  repeat' first | (with_reducible first | intro _ | exact cC | apply cM | apply cF | apply cL) | exact cD0 gM) h
def T194 (O : Orc) (A : Int) (B : Nat) (D : List V) (G H : Int) (I : Nat) (J : List V) : Option V := need (O.R 0 98 [int .i64 A, int .i64 0, int
 .i64 3]) fun a => asTup (some a) fun b => PI.asBool b[0]? fun c => bif !c then some (tup [bool false]) else bif (↑B : Int) != 19 then some (tup [bool false]) else need (O.R 0 221 [agg
 [int .i64 G, int .i64 H, sl I J]]) fun d => asTup (some d) fun e => PI.asBool e[0]? fun f => bif !f then some (tup [bool false]) else bif G == A then some (tup [bool (H ==
 4)]) else some (tup [bool false])
theorem E194 (A B D G H I J) {r : V} (h : T194 (orcE C) A B D G H I J = some r) : runE C 194 [agg [int .i64 A,
 sl B D, int .i64 G, int .i64 H, sl I J]] = some r := ofR (j := 1) (F := fun s => T194 (orc C s.k) A B D G H I J) (fun _ => by kernel_rfl) (by
  unfold T194
  repeat' first | (with_reducible first | intro _ | exact cC | apply cN cR | apply cT | apply cF | apply cB | apply cN cC | exact cR)) h
def T188 (O : Orc) (k : Nat) (A : Nat) (B : List V) : Option V := need (O.R 0 138 [str { data := #[(109 : UInt8), (101 : UInt8), (115 : UInt8), (115 : UInt8), (97 : UInt8),
 (103 : UInt8), (101 : UInt8)] }, sl A B]) fun a => asTup (some a) fun b => asOsl b[0]? fun c d => O.L 0 188 0 [true, true, true, true, false, true] [] k [(3, ref 0), (4, ref 1), (5,
 int .i64 0), (6, int .i64 0)] [Ob.row 5 c d false, Ob.row 2 0 [] false]
theorem E188 (A B) {r : V} (h : T188 (orcE C) 0 A B = some r) : runE C 188 [sl A B] = some r := ofR (j := 1) (F := fun s => T188 (orc C s.k) s.k A B) (fun _ =>
 by kernel_rfl) (by
  unfold T188
  repeat' first | (with_reducible first | intro _ | exact cC | apply cN cR | apply cT | apply cO | apply cN cC | exact cR) | exact cD0 gK) h
def T153l1 (O : Orc) (m : Nat) (A : Nat) (B : List V) (D G : Int) (H : Nat) (I : List V) (J K : Int) (L : Nat) (M : List V) (N : Nat) (P : List V) (Q : Nat) (R : List V) : Option V := bif decide (D < 19) then must (inB D H) (must (decide (D.toNat * 1 < I.length)) (asSl I[D.toNat * 1]? fun a b => bif (↑a : Int) != 32 then some
 (tup [bool false]) else must (inB D H) (must (decide (D.toNat * 1 < I.length)) (must (inB D N) (PI.asInt .i64 P[D.toNat * 1]? fun c => asSl I[D.toNat * 1]? fun d e => need (O.R 0
 189 [sl d e, int .i64 (i64.wrap (3 - c))]) fun f => asTup (some f) fun g => asOsl g[0]? fun i j => must (decide (j.length = i * 1)) (must (true && (Q + i).ble 140737488355328
 && ((Q + i) * 1).ble 140737488355328) (O.L 0 153 0 [true, true, true, true, false, true] [] m [(0, sl A B), (5, ptr 0 0), (7, ref 1), (8, ref 2), (9, int .i64 (i64.wrap (D +
 1)))] [Ob.box 167 [int .i64 G, sl H I, int .i64 J, int .i64 K, sl L M] false, Ob.row 2 N P false, Ob.row 5 (Q + i) (R ++ j) false]))))))) else need (O.R 0 195 [sl A B,
 sl Q R, agg [int .i64 J, int .i64 K, sl L M]]) fun l => asTup (some l) fun n => PI.asBool n[0]? fun p => some (tup [bool p])
theorem E153l1 (A B D G H I J K L M N P Q R) {r : V} (h :
 T153l1 (orcE C) 0 A B D G H I J K L M N P Q R = some r) : loopE C 153 0 [true, true, true, true, false, true] [] [(0, sl A B), (5, ptr 0 0), (7, ref 1), (8, ref 2),
 (9, int .i64 D)] [Ob.box 167 [int .i64 G, sl H I, int .i64 J, int .i64 K, sl L M] false, Ob.row 2 N P false, Ob.row 5 Q R false] = some r := ofL (j := 0) (F := fun s =>
 T153l1 (orc C s.k) s.m A B D G H I J K L M N P Q R) (fs0 fun _ _ => by kernel_rfl) (by
  unfold T153l1
  repeat' first | (with_reducible first | intro _ | exact cC | apply cN cR | apply cT | apply cI | apply cM | apply cF | apply cB | apply cL | apply cO | apply cN cC | exact cR) | exact cD0 gM) h
def T157l2 (O : Orc) (m q0 : Nat) (A : Nat) (B : List V) (D : Nat) (G : List V) (H I : Int) (J : List V) (K : Nat) (L M N : Int) (P : Nat) (Q
 : List V) (R : Nat) (S : List V) (U : Nat) (W : List V) (X : Nat) (Y : List V) : Option V := bif decide (L < (↑D : Int)) then must (inB L D) (must (decide (L.toNat * 2 + 0 <
 G.length)) (asSl G[L.toNat * 2 + 0]? fun a b => asSl J[K]? fun c d => need (O.R 0 82 [sl a b, sl c d]) fun e => asTup (some e) fun f => PI.asBool f[0]? fun g => bif g then must
 (inB L D) (PI.asInt .i64 G[L.toNat * 2 + 1]? fun i => O.L 0 157 2 [true, true, false, true, false, true, false, false, true, true] [q0] m [(0, sl A B), (1, sl D G), (5, ptr 0 0), (7,
 int .i64 (i64.wrap (H + i))), (8, int .i64 I), (9, V.prj J K), (10, int .i64 (i64.wrap (L + 1)))] [Ob.box 55 [int .i64 M, int .i64 N, sl P Q, sl R S,
 sl U W, sl X Y] false]) else O.L 0 157 2 [true, true, false, true, false, true, false, false, true, true] [q0] m [(0, sl A B), (1, sl D G), (5, ptr 0 0), (7, int .i64 H), (8,
 int .i64 I), (9, V.prj J K), (10, int .i64 (i64.wrap (L + 1)))] [Ob.box 55 [int .i64 M, int .i64 N, sl P Q, sl R S, sl U W, sl X Y] false])) else O.L 0
 157 0 [true, true, false, true] [] q0 [(0, sl A B), (1, sl D G), (5, ptr 0 0), (7, int .i64 H), (8, int .i64 (i64.wrap (I + 1)))] [Ob.box 55 [int .i64 M, int .i64 N,
 sl P Q, sl R S, sl U W, sl X Y] false]
theorem E157l2 (A B D G H I J K L M N P Q R S U W X Y) {r : V} (h : T157l2 (orcE C) 0 0 A B D G H I J K L M N P Q R S U W X Y = some r) : loopE C 157 2 [true, true,
 false, true, false, true, false, false, true, true] [0] [(0, sl A B), (1, sl D G), (5, ptr 0 0), (7, int .i64 H), (8, int .i64 I), (9, V.prj J K), (10, int .i64 L)] [Ob.box 55
 [int .i64 M, int .i64 N, sl P Q, sl R S, sl U W, sl X Y] false] = some r := ofL (j := 0) (F := fun s => T157l2 (orc C s.k) s.m (s.fs.getD 0 0) A B D G H I
 J K L M N P Q R S U W X Y) (fs1 fun _ _ _ => by kernel_rfl) (by
  unfold T157l2
  repeat' first | (with_reducible first | intro _ | exact cC | apply cN cR | apply cT | apply cI | apply cM | apply cF | apply cB | apply cL | apply cN cC | exact cR) | exact cD0 (gF (i := 0) (by decide)) | exact cD1 gM (gF (i := 0) (by decide))) h
def T183l1 (O : Orc) (m : Nat) (A : Nat) (B : List V) (D G : Int) (H : Nat) (I : List V) : Option V := bif decide (G < D) then must (inB G A) (must (decide
 (G.toNat * 1 < B.length)) (asSl B[G.toNat * 1]? fun a b => bif decide ((↑a : Int) > 200) then some (tup [sl 0 [], bool false]) else asSl B[G.toNat * 1]? fun c d => bif decide
 (i64.wrap (i64.wrap ((↑H : Int) + 1) + (↑c : Int)) > 4000) then some (tup [sl 0 [], bool false]) else asSl B[G.toNat * 1]? fun e f => must (true && (H + 1).ble
 140737488355328 && ((H + 1) * 1).ble 140737488355328) (asSl B[G.toNat * 1]? fun g i => must (decide (i.length = g * 1)) (must (true && (H + 1 + g).ble 140737488355328 && ((H + 1 + g) *
 1).ble 140737488355328) (O.L 0 183 0 [true, true, true, false, true] [] m [(4, ref 0), (11, sl A B), (12, int .i64 D), (13, int .i64 (i64.wrap (G + 1)))] [Ob.row 5 (H + 1 + g)
 (I ++ [int .u8 (u8.wrap (↑e : Int))] ++ i) false]))))) else some (tup [sl H I, bool true])
theorem E183l1 (A B D G H I) {r : V} (h : T183l1 (orcE C) 0 A B D G H I = some r) : loopE C 183 0 [true, true, true, false, true]
 [] [(4, ref 0), (11, sl A B), (12, int .i64 D), (13, int .i64 G)] [Ob.row 5 H I false] = some r := ofL (j := 0) (F := fun s => T183l1 (orc C s.k) s.m A B D G H I) (fs0 fun
 _ _ => by kernel_rfl) (by
  unfold T183l1
  repeat' first | (with_reducible first | intro _ | exact cC | apply cM | apply cF | apply cL) | exact cD0 gM) h
def T130l1 (O : Orc) (k m : Nat) (A : Nat) (B : List V) (D G : Int) (H : Nat) (I : List V) : Option V := bif decide (G < D) then must (inB G A) (must (decide
 (G.toNat * 1 < B.length)) (asSl B[G.toNat * 1]? fun a b => must (decide (b.length = a * 1)) (must (true && (H + a).ble 140737488355328 && ((H + a) * 1).ble 140737488355328) (O.L 0 130 0
 [true, true, false, true] [] m [(3, ref 0), (13, sl A B), (14, int .i64 D), (15, int .i64 (i64.wrap (G + 1)))] [Ob.row 5 (H + a) (I ++ b) false])))) else must (true && (H +
 1).ble 140737488355328 && ((H + 1) * 1).ble 140737488355328) (O.L 0 130 2 [true, true, true, true, true, false] [] k [(3, ref 0), (6, int .u64 (u64.wrap (u64.wrap (↑H : Int) *
 8)))] [Ob.row 5 (H + 1) (I ++ [int .u8 128]) false])
theorem E130l1 (A B D G H I) {r : V} (h : T130l1 (orcE C) 0 0 A B D G H I = some r) : loopE C 130 0 [true, true, false, true] [] [(3,
 ref 0), (13, sl A B), (14, int .i64 D), (15, int .i64 G)] [Ob.row 5 H I false] = some r := ofL (j := 0) (F := fun s => T130l1 (orc C s.k) s.k s.m A B D G H I) (fs0 fun _ _ =>
 by kernel_rfl) (by
  unfold T130l1
  repeat' first | (with_reducible first | intro _ | exact cC | apply cM | apply cF | apply cL) | exact cD0 gK | exact cD0 gM) h
def T219 (O : Orc) (A : Int) : Option V := need (O.R 0 51 [int .i64 A, int .i64 0, int .i64 3]) fun a => asTup (some a) fun b => PI.asBool b[0]? fun c =>
 some (tup [bool c])
theorem E219 (A) {r : V} (h : T219 (orcE C) A = some r) : runE C 219 [int .i64 A] = some r := ofR (j := 1) (F := fun s => T219 (orc C s.k) A) (fun _ => by kernel_rfl) (by
  unfold T219
  repeat' first | (with_reducible first | intro _ | exact cC | apply cN cR | apply cT | apply cB | apply cN cC | exact cR)) h
def T192l1 (O : Orc) (k m : Nat) (A : Int) (B : Nat) (D : List V) (G H : Int) (I : Nat) (J : List V) : Option V := bif decide (H < G) then must (inB H B)
 (PI.asInt .u8 D[H.toNat * 1]? fun a => O.L 0 192 2 [true, true, false, true, false, true, true, false, false, true, true] [m] k [(3, ref 0), (4, int .i64 A), (6, int .u8 a), (7, int .i64
 6), (13, sl B D), (14, int .i64 G), (15, int .i64 H)] [Ob.row 2 I J false]) else must (true && (I + 3).ble 140737488355328 && ((I + 3) * 8).ble 140737488355328) (must (false || (J ++
 [int .i64 (i64.wrap (A.tdiv 16)), int .i64 ((i64.wrap (A.tdiv 4)).tmod 4), int .i64 (A.tmod 4)]).all flatV) (some (tup [osl (I + 3) (J ++ [int .i64 (i64.wrap
 (A.tdiv 16)), int .i64 ((i64.wrap (A.tdiv 4)).tmod 4), int .i64 (A.tmod 4)])])))
theorem E192l1 (A B D G H I J) {r : V} (h : T192l1 (orcE C) 0 0 A B D G H I J = some r) : loopE C 192 0 [true, true, false,
 true] [] [(3, ref 0), (4, int .i64 A), (13, sl B D), (14, int .i64 G), (15, int .i64 H)] [Ob.row 2 I J false] = some r := ofL (j := 0) (F := fun s => T192l1 (orc C s.k) s.k s.m A
 B D G H I J) (fs0 fun _ _ => by kernel_rfl) (by
  unfold T192l1
  repeat' first | (with_reducible first | intro _ | exact cC | apply cI | apply cM | apply cF) | exact cD1 gK gM) h
def T193 (O : Orc) (k : Nat) (A : Nat) (B : List V) (D : Int) : Option V := need (O.R 0 220 [sl A B]) fun a => asTup (some a) fun b => asOsl b[0]? fun c d => O.L 0
 193 0 [true, true, false, true] [] k [(0, ref 0), (7, int .i64 D), (8, int .i64 0)] [Ob.row 5 c d false]
theorem E193 (A B D) {r : V} (h : T193 (orcE C) 0 A B D = some r) : runE C 193 [sl A B, int .i64 D] = some r := ofR (j := 1) (F := fun s => T193 (orc C s.k) s.k A B D) (fun _ => by kernel_rfl) (by
  unfold T193
  repeat' first | (with_reducible first | intro _ | exact cC | apply cN cR | apply cT | apply cO | apply cN cC | exact cR) | exact cD0 gK) h
def T162 (O : Orc) (k : Nat) (A : Nat) (B : List V) (D : Nat) (G : List V) (H I : Int) (J : Nat) (K : List V) : Option V := need (O.R 0 196 [agg [int .i64 H,
 int .i64 I, sl J K]]) fun a => asTup (some a) fun b => PI.asBool b[0]? fun c => bif !c then some (tup [bool false]) else need (O.R 0 197 [sl D G]) fun d => asTup (some d) fun e
 => asOsl e[0]? fun f g => need (O.R 0 198 [int .i64 I, int .i64 H]) fun i => asTup (some i) fun j => asOsl j[0]? fun l n => O.L 0 162 0 [true, true, true, false, true] [] k [(0, sl
 A B), (5, ptr 0 0), (7, ref 1), (19, ref 2), (20, int .i64 (↑l : Int)), (21, int .i64 0)] [Ob.box 66 [int .i64 H, int .i64 I, sl J K] false, Ob.row 5 f g false, Ob.row 4 l
 n false]
theorem E162 (A B D G H I J K) {r : V} (h : T162 (orcE C) 0 A B D G H I J K = some r) : runE C 162 [sl A
 B, sl D G, agg [int .i64 H, int .i64 I, sl J K]] = some r := ofR (j := 1) (F := fun s => T162 (orc C s.k) s.k A B D G H I J K) (fun _ => by kernel_rfl) (by
  unfold T162
  repeat' first | (with_reducible first | intro _ | exact cC | apply cN cR | apply cT | apply cF | apply cB | apply cO | apply cN cC | exact cR) | exact cD0 gK) h
def T167l2 (O : Orc) (m : Nat) (A : Nat) (B : List V) (D G : Int) : Option V := bif decide (G < D) then must (inB G A) (must (decide (G.toNat * 1 < B.length))
 (asSl B[G.toNat * 1]? fun a b => need (O.R 0 181 [sl a b]) fun c => asTup (some c) fun d => PI.asBool d[0]? fun e => bif e then some (tup [int .i64 G]) else O.L 0 167 0 [true,
 false, true] [] m [(0, sl A B), (1, fn 181 []), (7, int .i64 D), (8, int .i64 (i64.wrap (G + 1)))] [])) else some (tup [int .i64 (-1)])
theorem E167l2 (A B D G) {r : V} (h : T167l2 (orcE C) 0 A B D G = some r) : loopE C 167 0 [true, false, true] [] [(0, sl A B), (1, fn 181 []), (7,
 int .i64 D), (8, int .i64 G)] [] = some r := ofL (j := 0) (F := fun s => T167l2 (orc C s.k) s.m A B D G) (fs0 fun _ _ => by kernel_rfl) (by
  unfold T167l2
  repeat' first | (with_reducible first | intro _ | exact cC | apply cN cR | apply cT | apply cM | apply cF | apply cB | apply cL | apply cN cC | exact cR) | exact cD0 gM) h
def T200l1 (O : Orc) (m : Nat) (A : Nat) (B : List V) (D : Nat) (G : List V) (H I : Int) : Option V := bif decide (I < H) then must (inB I A) (asSl B[I.toNat *
 2]? fun a b => PI.asInt .i64 B[I.toNat * 2 + 1]? fun c => need (O.R 0 201 [agg [sl a b, int .i64 c], pin [sl D G] 0]) fun d => asTup (some d) fun e => PI.asBool e[0]? fun f =>
 bif f then some (tup [int .i64 I]) else O.L 0 200 0 [true, false, true] [] m [(0, sl A B), (1, fn 201 [pin [sl D G] 0]), (7, int .i64 H), (8, int .i64 (i64.wrap (I +
 1)))] []) else some (tup [int .i64 (-1)])
theorem E200l1 (A B D G H I) {r : V} (h : T200l1 (orcE C) 0 A B D G H I = some r) : loopE C 200 0 [true, false, true] [] [(0, sl
 A B), (1, fn 201 [pin [sl D G] 0]), (7, int .i64 H), (8, int .i64 I)] [] = some r := ofL (j := 0) (F := fun s => T200l1 (orc C s.k) s.m A B D G H I) (fs0 fun _ _ => by
 kernel_rfl) (by
  unfold T200l1
  repeat' first | (with_reducible first | intro _ | exact cC | apply cN cR | apply cT | apply cI | apply cM | apply cF | apply cB | apply cL | apply cN cC | exact cR) | exact cD0 gM) h
def T185 (O : Orc) (k : Nat) (A : Nat) (B : List V) (D : Int) : Option V := O.L 0 185 0 [true, true, false, true] [] k [(0, sl A B), (1, int .i64 D), (5, ref 0), (6,
 int .i64 0)] [Ob.row 5 0 [] false]
theorem E185 (A B D) {r : V} (h : T185 (orcE C) 0 A B D = some r) : runE C 185 [sl A B, int .i64 D] = some r := ofR (j := 1) (F := fun s => T185 (orc C s.k) s.k A B D) (fun _ => by kernel_rfl) (by
  unfold T185
  repeat' first | with_reducible exact cC | exact cD0 gK) h
def T212 (O : Orc)  : Option V := some (agg [int .i64 1116352408, int .i64 1899447441, int .i64 3049323471, int .i64 3921009573, int .i64 961987163, int
 .i64 1508970993, int .i64 2453635748, int .i64 2870763221, int .i64 3624381080, int .i64 310598401, int .i64 607225278, int .i64 1426881987, int .i64 1925078388, int .i64 2162078206,
 int .i64 2614888103, int .i64 3248222580, int .i64 3835390401, int .i64 4022224774, int .i64 264347078, int .i64 604807628, int .i64 770255983, int .i64 1249150122, int .i64
 1555081692, int .i64 1996064986, int .i64 2554220882, int .i64 2821834349, int .i64 2952996808, int .i64 3210313671, int .i64 3336571891, int .i64 3584528711, int .i64 113926993, int
 .i64 338241895, int .i64 666307205, int .i64 773529912, int .i64 1294757372, int .i64 1396182291, int .i64 1695183700, int .i64 1986661051, int .i64 2177026350, int .i64 2456956037,
 int .i64 2730485921, int .i64 2820302411, int .i64 3259730800, int .i64 3345764771, int .i64 3516065817, int .i64 3600352804, int .i64 4094571909, int .i64 275423344, int .i64
 430227734, int .i64 506948616, int .i64 659060556, int .i64 883997877, int .i64 958139571, int .i64 1322822218, int .i64 1537002063, int .i64 1747873779, int .i64 1955562222, int
 .i64 2024104815, int .i64 2227730452, int .i64 2361852424, int .i64 2428436474, int .i64 2756734187, int .i64 3204031479, int .i64 3329325298])
theorem E212  {r : V} (h : T212 (orcE C)  = some r) : runE C 212 [] = some r := ofR (j := 1) (F := fun s => T212 (orc C s.k) ) (fun _ => by kernel_rfl) (by
  unfold T212
  exact cC) h
def T213 (O : Orc)  : Option V := some (tup [int .i64 1779033703, int .i64 3144134277, int .i64 1013904242, int .i64 2773480762, int .i64 1359893119, int
 .i64 2600822924, int .i64 528734635, int .i64 1541459225])
theorem E213  {r : V} (h : T213 (orcE C)  = some r) : runE C 213 [] = some r := ofR (j := 1) (F := fun s => T213 (orc C s.k) ) (fun _ => by kernel_rfl) (by
  unfold T213
  exact cC) h
def T214 (O : Orc) (k : Nat) (A : Nat) (B : List V) : Option V := must (decide (B.length = A * 1)) (must (true && (0 + A).ble 140737488355328 && ((0 + A) * 1).ble
 140737488355328) (must (true && (0 + A + 1).ble 140737488355328 && ((0 + A + 1) * 1).ble 140737488355328) (O.L 0 214 0 [true, true, false] [] k [(0, sl A B), (3, ref 0)] [Ob.row 5 (0 + A + 1)
 (B ++ [int .u8 128]) false])))
theorem E214 (A B) {r : V} (h : T214 (orcE C) 0 A B = some r) : runE C 214 [sl A B] = some r := ofR (j := 1) (F := fun s => T214 (orc C s.k) s.k A B) (fun _ =>
 by kernel_rfl) (by
  unfold T214
  repeat' first | (with_reducible first | intro _ | exact cC | apply cM) | exact cD0 gK) h
def T186l1 (O : Orc) (k m : Nat) (A : Nat) (B : List V) (D : Int) (G H : List V) : Option V := bif decide (D < (↑A : Int)) then O.L 0 186 2 [true, true, true,
 true, false, true, false, true, false, false, true, false, true] [m] k [(3, ptr 0 0), (4, ptr 1 0), (5, sl A B), (6, int .i64 D), (7, ptr 2 0), (8, int .i64 0)] [Ob.box 217 G false,
 Ob.box 219 H false, Ob.box 217 [int .i64 0, int .i64 0, int .i64 0, int .i64 0, int .i64 0, int .i64 0, int .i64 0, int .i64 0, int .i64 0, int .i64 0, int .i64 0, int .i64 0,
 int .i64 0, int .i64 0, int .i64 0, int .i64 0, int .i64 0, int .i64 0, int .i64 0, int .i64 0, int .i64 0, int .i64 0, int .i64 0, int .i64 0, int .i64 0, int .i64 0,
 int .i64 0, int .i64 0, int .i64 0, int .i64 0, int .i64 0, int .i64 0, int .i64 0, int .i64 0, int .i64 0, int .i64 0, int .i64 0, int .i64 0, int .i64 0, int .i64 0,
 int .i64 0, int .i64 0, int .i64 0, int .i64 0, int .i64 0, int .i64 0, int .i64 0, int .i64 0, int .i64 0, int .i64 0, int .i64 0, int .i64 0, int .i64 0, int .i64 0,
 int .i64 0, int .i64 0, int .i64 0, int .i64 0, int .i64 0, int .i64 0, int .i64 0, int .i64 0, int .i64 0, int .i64 0] false] else O.L 0 186 10 [true, true, true, true, true,
 true, false, true] [] k [(4, ptr 0 0), (17, ref 1), (18, int .i64 0)] [Ob.box 219 H false, Ob.row 5 0 [] false]
theorem E186l1 (A B D G H) {r : V} (h : T186l1 (orcE C) 0 0 A B D G H = some r) : loopE C 186 0 [true, true, true, true, false, true] []
 [(3, ptr 0 0), (4, ptr 1 0), (5, sl A B), (6, int .i64 D)] [Ob.box 217 G false, Ob.box 219 H false] = some r := ofL (j := 0) (F := fun s => T186l1 (orc C s.k) s.k s.m A B D G H)
 (fs0 fun _ _ => by kernel_rfl) (by
  unfold T186l1
  repeat' first | (with_reducible first | intro _ | exact cC | apply cF) | exact cD0 gK | exact cD1 gK gM) h
def T187 (O : Orc) (A : Nat) (B : List V) (D : Int) : Option V := need (O.R 0 218 [sl A B, int .i64 D]) fun a => asTup (some a) fun b => asOsl b[0]? fun c
 d => some (tup [int .i64 D, int .i64 (↑A : Int), osl c d])
theorem E187 (A B D) {r : V} (h : T187 (orcE C) A B D = some r) : runE C 187 [sl A B, int .i64 D] = some r := ofR (j := 1) (F := fun s => T187 (orc C s.k) A B D) (fun _ => by kernel_rfl) (by
  unfold T187
  repeat' first | (with_reducible first | intro _ | exact cC | apply cN cR | apply cT | apply cO | apply cN cC | exact cR)) h
def T145l1 (O : Orc) (m : Nat) (A : Nat) (B : List V) (D G H I J : Int) (K : Nat) (L : List V) (M : Nat) (N : List V) (P : Int) (Q
 : Int) (R : Int) (S : Nat) (U : List V) (W : Nat) (X : List V) (Y : Nat) (Z : List V) : Option V := bif decide (G < 19) then must (inB G Y) (PI.asInt .i64 Z[G.toNat * 1]? fun a
 => need (O.R 0 190 [sl A B, int .i64 D, int .i64 G]) fun b => asTup (some b) fun c => asOsl c[0]? fun d e => need (O.R 0 189 [sl d e, int .i64 a]) fun f => asTup (some f) fun
 g => asOsl g[0]? fun i j => must (j.all flatV) (must (true && (S + 1).ble 140737488355328 && ((S + 1) * 24).ble 140737488355328) (O.L 0 145 0 [true, true, true, false, true] [] m [(0, sl A
 B), (1, int .i64 D), (6, ptr 0 0), (7, ptr 3 0), (8, ref 6), (9, int .i64 (i64.wrap (G + 1)))] [Ob.box 167 [int .i64 H, ref 1, int .i64 I, int .i64 J, ref 2] false,
 Ob.nrow [] 22 K L, Ob.nrow [] 22 M N, Ob.box 167 [int .i64 P, ref 4, int .i64 Q, int .i64 R, ref 5] false, Ob.nrow [] 22 (S + 1) (U ++ [own false 5 1 i j]), Ob.nrow [] 22
 W X, Ob.row 2 Y Z false]))) else some (tup [int .i64 P, osl S U, int .i64 Q, int .i64 R, osl W X])
theorem E145l1 (A B D G H I J K L M N P Q R S) (U :
 List V) (W : Nat) (X : List V) (Y : Nat) (Z : List V) {r : V} (h : T145l1 (orcE C) 0 A B D G H I J K L M N P Q R S U W X Y Z = some r) : loopE C 145 0
 [true, true, true, false, true] [] [(0, sl A B), (1, int .i64 D), (6, ptr 0 0), (7, ptr 3 0), (8, ref 6), (9, int .i64 G)] [Ob.box 167 [int .i64 H, ref 1, int .i64 I, int
 .i64 J, ref 2] false, Ob.nrow [] 22 K L, Ob.nrow [] 22 M N, Ob.box 167 [int .i64 P, ref 4, int .i64 Q, int .i64 R, ref 5] false, Ob.nrow [] 22 S U, Ob.nrow [] 22 W X,
 Ob.row 2 Y Z false] = some r := ofL (j := 0) (F := fun s => T145l1 (orc C s.k) s.m A B D G H I J K L M N P Q R S U W X Y Z) (fs0 fun _ _ => by kernel_rfl) (by
  unfold T145l1
  repeat' first | (with_reducible first | intro _ | exact cC | apply cN cR | apply cT | apply cI | apply cM | apply cF | apply cO | apply cN cC | exact cR) | exact cD0 gM) h
def T151l1 (O : Orc) (m : Nat) (A : Nat) (B : List V) (D G : Int) (H : Nat) (I : List V) : Option V := bif decide (G < D) then must (inB G A) (asSl B[G.toNat *
 2]? fun a b => PI.asInt .i64 B[G.toNat * 2 + 1]? fun c => need (O.R 0 110 [sl a b]) fun d => asTup (some d) fun e => asOsl e[0]? fun f g => must (g.all flatV) (must (true && (H +
 1).ble 140737488355328 && ((H + 1) * 32).ble 140737488355328) (O.L 0 151 0 [true, true, false, true] [] m [(3, ref 0), (7, sl A B), (8, int .i64 D), (9, int .i64 (i64.wrap (G +
 1)))] [Ob.nrow [] 161 (H + 1) (I ++ [own false 5 1 f g, int .i64 c])]))) else some (tup [osl H I])
theorem E151l1 (A B D G H I) {r : V} (h : T151l1 (orcE C) 0 A B D G H I = some r) : loopE C 151 0 [true, true, false, true] [] [(3,
 ref 0), (7, sl A B), (8, int .i64 D), (9, int .i64 G)] [Ob.nrow [] 161 H I] = some r := ofL (j := 0) (F := fun s => T151l1 (orc C s.k) s.m A B D G H I) (fs0 fun _ _ => by
 kernel_rfl) (by
  unfold T151l1
  repeat' first | (with_reducible first | intro _ | exact cC | apply cN cR | apply cT | apply cI | apply cM | apply cF | apply cL | apply cO | apply cN cC | exact cR) | exact cD0 gM) h
def T152l1 (O : Orc) (m : Nat) (A : Nat) (B : List V) (D G : Int) (H : Nat) (I : List V) : Option V := bif decide (G < D) then must (inB G A) (must (decide
 (G.toNat * 1 < B.length)) (asSl B[G.toNat * 1]? fun a b => need (O.R 0 110 [sl a b]) fun c => asTup (some c) fun d => asOsl d[0]? fun e f => must (f.all flatV) (must (true && (H +
 1).ble 140737488355328 && ((H + 1) * 24).ble 140737488355328) (O.L 0 152 0 [true, true, false, true] [] m [(3, ref 0), (7, sl A B), (8, int .i64 D), (9, int .i64 (i64.wrap (G +
 1)))] [Ob.nrow [] 22 (H + 1) (I ++ [own false 5 1 e f])])))) else some (tup [osl H I])
theorem E152l1 (A B D G H I) {r : V} (h : T152l1 (orcE C) 0 A B D G H I = some r) : loopE C 152 0 [true, true, false, true] [] [(3,
 ref 0), (7, sl A B), (8, int .i64 D), (9, int .i64 G)] [Ob.nrow [] 22 H I] = some r := ofL (j := 0) (F := fun s => T152l1 (orc C s.k) s.m A B D G H I) (fs0 fun _ _ => by
 kernel_rfl) (by
  unfold T152l1
  repeat' first | (with_reducible first | intro _ | exact cC | apply cN cR | apply cT | apply cM | apply cF | apply cL | apply cO | apply cN cC | exact cR) | exact cD0 gM) h
def T221 (O : Orc) (k : Nat) (A B : Int) (D : Nat) (G : List V) : Option V := need (O.R 0 230 [int .i64 B, int .i64 A]) fun a => asTup (some a) fun b =>
 PI.asInt .i64 b[0]? fun c => PI.asInt .i64 b[1]? fun d => bif c != 0 then some (tup [bool false]) else bif (↑D : Int) != d then some (tup [bool false]) else O.L 0 221 0 [true, true,
 true, false, true] [] k [(1, ptr 0 0), (4, int .i64 0)] [Ob.box 66 [int .i64 A, int .i64 B, sl D G] false]
theorem E221 (A B D G) {r : V} (h : T221 (orcE C) 0 A B D G = some r) : runE C 221 [agg [int .i64 A, int .i64 B, sl D G]] = some r := ofR (j
 := 1) (F := fun s => T221 (orc C s.k) s.k A B D G) (fun _ => by kernel_rfl) (by
  unfold T221
  repeat' first | (with_reducible first | intro _ | exact cC | apply cN cR | apply cT | apply cI | apply cF | apply cN cC | exact cR) | exact cD0 gK) h
def T188l1 (O : Orc) (k m : Nat) (A B : Int) (D : Nat) (G : List V) (H : Nat) (I : List V) : Option V := bif decide (B < 4) then O.L 0 188 2 [true, true, true, true,
 false, true, false, true, false, false, true] [m] k [(3, ref 0), (4, ref 1), (5, int .i64 A), (6, int .i64 B), (7, int .i64 3)] [Ob.row 5 D G false, Ob.row 2 H I false] else must (true
 && (H + 3).ble 140737488355328 && ((H + 3) * 8).ble 140737488355328) (must (false || (I ++ [int .i64 (i64.wrap (A.tdiv 16)), int .i64 ((i64.wrap (A.tdiv 4)).tmod 4), int
 .i64 (A.tmod 4)]).all flatV) (some (tup [osl (H + 3) (I ++ [int .i64 (i64.wrap (A.tdiv 16)), int .i64 ((i64.wrap (A.tdiv 4)).tmod 4), int .i64 (A.tmod 4)])])))
theorem E188l1 (A B D G H I) {r : V} (h : T188l1 (orcE C) 0 0 A B D G H I = some r) : loopE C 188 0 [true, true, true, true, false,
 true] [] [(3, ref 0), (4, ref 1), (5, int .i64 A), (6, int .i64 B)] [Ob.row 5 D G false, Ob.row 2 H I false] = some r := ofL (j := 0) (F := fun s => T188l1 (orc C s.k) s.k s.m A B
 D G H I) (fs0 fun _ _ => by kernel_rfl) (by
  unfold T188l1
  repeat' first | (with_reducible first | intro _ | exact cC | apply cM | apply cF) | exact cD1 gK gM) h
def T189 (O : Orc) (k : Nat) (A : Nat) (B : List V) (D : Int) : Option V := O.L 0 189 0 [true, false] [] k [(0, sl A B), (1, int .i64 D)] []
theorem E189 (A B D) {r : V} (h : T189 (orcE C) 0 A B D = some r) : runE C 189 [sl A B, int .i64 D] = some r := ofR (j := 1) (F := fun s => T189 (orc C s.k) s.k A B D) (fun _ => by kernel_rfl) (by
  unfold T189
  repeat' first | with_reducible exact cC | exact cD0 gK) h
def T195 (O : Orc) (k : Nat) (A : Nat) (B : List V) (D : Nat) (G : List V) (H I : Int) (J : Nat) (K : List V) : Option V := need (O.R 0 221 [agg [int .i64 H,
 int .i64 I, sl J K]]) fun a => asTup (some a) fun b => PI.asBool b[0]? fun c => bif !c then some (tup [bool false]) else need (O.R 0 139 [sl D G]) fun d => asTup (some d) fun e
 => asOsl e[0]? fun f g => need (O.R 0 222 [int .i64 I, int .i64 H]) fun i => asTup (some i) fun j => asOsl j[0]? fun l n => O.L 0 195 0 [true, true, true, true, false, true] [] k [(0,
 sl A B), (5, ptr 0 0), (7, ref 1), (8, ref 2), (9, int .i64 0)] [Ob.box 66 [int .i64 H, int .i64 I, sl J K] false, Ob.row 5 f g false, Ob.row 4 l n false]
theorem E195 (A B D G H I J K) {r : V} (h : T195 (orcE C) 0 A B D G H I J K = some r) : runE C 195 [sl A
 B, sl D G, agg [int .i64 H, int .i64 I, sl J K]] = some r := ofR (j := 1) (F := fun s => T195 (orc C s.k) s.k A B D G H I J K) (fun _ => by kernel_rfl) (by
  unfold T195
  repeat' first | (with_reducible first | intro _ | exact cC | apply cN cR | apply cT | apply cF | apply cB | apply cO | apply cN cC | exact cR) | exact cD0 gK) h
def T130l2 (O : Orc) (k m : Nat) (A : Int) (B : Nat) (D : List V) : Option V := bif (↑B : Int).tmod 64 != 56 then must (true && (B + 1).ble 140737488355328 && ((B + 1) *
 1).ble 140737488355328) (O.L 0 130 2 [true, true, true, true, true, false] [] m [(3, ref 0), (6, int .u64 A)] [Ob.row 5 (B + 1) (D ++ [int .u8 0]) false]) else O.L 0 130 4 [true, true, true,
 true, true, true, false, true] [] k [(3, ref 0), (6, int .u64 A), (7, int .i64 56)] [Ob.row 5 B D false]
theorem E130l2 (A B D) {r : V} (h : T130l2 (orcE C) 0 0 A B D = some r) : loopE C 130 2 [true, true, true, true, true, false] [] [(3, ref 0), (6, int .u64 A)]
 [Ob.row 5 B D false] = some r := ofL (j := 0) (F := fun s => T130l2 (orc C s.k) s.k s.m A B D) (fs0 fun _ _ => by kernel_rfl) (by
  unfold T130l2
  repeat' first | (with_reducible first | intro _ | exact cC | apply cM | apply cF) | exact cD0 gK | exact cD0 gM) h
def T192l2 (O : Orc) (m q0 : Nat) (A B D : Int) (G : Nat) (H : List V) (I J : Int) (K : Nat) (L : List V) : Option V := bif decide (D ≥ 0) then must
 (decide (0 ≤ D)) (must (true && (K + 1).ble 140737488355328 && ((K + 1) * 8).ble 140737488355328) (O.L 0 192 2 [true, true, false, true, false, true, true, false, false, true, true] [q0] m [(3,
 ref 0), (4, int .i64 (i64.wrap (i64.wrap (A + 3) - i64.wrap (PI.bits u8 (fun a b => a &&& b) (B.fdiv (2 ^ min D.toNat 8)) 3)))), (6, int .u8 B), (7, int
 .i64 (i64.wrap (D - 2))), (13, sl G H), (14, int .i64 I), (15, int .i64 J)] [Ob.row 2 (K + 1) (L ++ [int .i64 (i64.wrap (PI.bits u8 (fun a b => a &&& b)
 (B.fdiv (2 ^ min D.toNat 8)) 3))]) false])) else O.L 0 192 0 [true, true, false, true] [] q0 [(3, ref 0), (4, int .i64 A), (13, sl G H), (14, int .i64 I), (15, int .i64
 (i64.wrap (J + 1)))] [Ob.row 2 K L false]
theorem E192l2 (A B D G H I J K L) {r : V} (h : T192l2 (orcE C) 0 0 A B D G H I J K L = some r) : loopE
 C 192 2 [true, true, false, true, false, true, true, false, false, true, true] [0] [(3, ref 0), (4, int .i64 A), (6, int .u8 B), (7, int .i64 D), (13, sl G H), (14, int .i64 I), (15,
 int .i64 J)] [Ob.row 2 K L false] = some r := ofL (j := 0) (F := fun s => T192l2 (orc C s.k) s.m (s.fs.getD 0 0) A B D G H I J K L) (fs1 fun _ _ _ => by kernel_rfl) (by
  unfold T192l2
  repeat' first | (with_reducible first | intro _ | exact cC | apply cM | apply cF) | exact cD0 (gF (i := 0) (by decide)) | exact cD1 gM (gF (i := 0) (by decide))) h
def T220 (O : Orc) (A : Nat) (B : List V) : Option V := bif A.beq (OfNat.ofNat 0) then both (some (tup [osl 0 []])) (must (decide (B.length = A * 1)) (must
 (true && (0 + A).ble 140737488355328 && ((0 + A) * 1).ble 140737488355328) (must (false || B.all flatV) (some (tup [osl (0 + A) B]))))) else must (decide (B.length = A * 1)) (must (true &&
 (0 + A).ble 140737488355328 && ((0 + A) * 1).ble 140737488355328) (must (false || B.all flatV) (some (tup [osl (0 + A) B]))))
theorem E220 (A B) {r : V} (h : T220 (orcE C) A B = some r) : runE C 220 [sl A B] = some r := ofR (j := 1) (F := fun s => T220 (orc C s.k) A B) (fun _ =>
 by kernel_rfl) (by
  unfold T220
  repeat' first | (with_reducible first | intro _ | exact cC | apply cM | apply cF | apply cW)) h
def T193l1 (O : Orc) (m : Nat) (A B : Int) (D : Nat) (G : List V) : Option V := bif decide (B < A) then need (O.R 0 147 [str { data := #[(115 : UInt8), (116 :
 UInt8), (101 : UInt8), (112 : UInt8)] }, sl 1 [sl D G]]) fun a => asTup (some a) fun b => asOsl b[0]? fun c d => O.L 0 193 0 [true, true, false, true] [] m [(0, ref 0), (7, int .i64
 A), (8, int .i64 (i64.wrap (B + 1)))] [Ob.row 5 c d false] else must (false || G.all flatV) (some (tup [osl D G]))
theorem E193l1 (A B D G) {r : V} (h : T193l1 (orcE C) 0 A B D G = some r) : loopE C 193 0 [true, true, false, true] [] [(0, ref 0), (7, int .i64 A),
 (8, int .i64 B)] [Ob.row 5 D G false] = some r := ofL (j := 0) (F := fun s => T193l1 (orc C s.k) s.m A B D G) (fs0 fun _ _ => by kernel_rfl) (by
  unfold T193l1
  repeat' first | (with_reducible first | intro _ | exact cC | apply cN cR | apply cT | apply cM | apply cF | apply cO | apply cN cC | exact cR) | exact cD0 gM) h
def T196 (O : Orc) (A B : Int) (D : Nat) (G : List V) : Option V := need (O.R 0 223 [int .i64 B, int .i64 A]) fun a => asTup (some a) fun b =>
 PI.asInt .i64 b[0]? fun c => PI.asInt .i64 b[1]? fun d => bif c == 0 then bif d == (↑D : Int) then need (O.R 0 128 [sl D G]) fun e => asTup (some e) fun f => PI.asBool f[0]? fun g =>
 some (tup [bool g]) else some (tup [bool false]) else some (tup [bool false])
theorem E196 (A B D G) {r : V} (h : T196 (orcE C) A B D G = some r) : runE C 196 [agg [int .i64 A, int .i64 B, sl D G]] = some r := ofR (j
 := 1) (F := fun s => T196 (orc C s.k) A B D G) (fun _ => by kernel_rfl) (by
  unfold T196
  repeat' first | (with_reducible first | intro _ | exact cC | apply cN cR | apply cT | apply cI | apply cF | apply cB | apply cN cC | exact cR)) h
def T197 (O : Orc) (A : Nat) (B : List V) : Option V := need (O.R 0 147 [str { data := #[(108 : UInt8), (101 : UInt8), (97 : UInt8), (102 : UInt8)] }, sl 1 [sl
 A B]]) fun a => asTup (some a) fun b => asOsl b[0]? fun c d => must (false || d.all flatV) (some (tup [osl c d]))
theorem E197 (A B) {r : V} (h : T197 (orcE C) A B = some r) : runE C 197 [sl A B] = some r := ofR (j := 1) (F := fun s => T197 (orc C s.k) A B) (fun _ =>
 by kernel_rfl) (by
  unfold T197
  repeat' first | (with_reducible first | intro _ | exact cC | apply cN cR | apply cT | apply cM | apply cO | apply cN cC | exact cR)) h
def T198 (O : Orc) (A B : Int) : Option V := bif A == 1 then some (tup [osl 0 []]) else need (O.R 0 224 [int .i64 A]) fun a => asTup (some a) fun b
 => PI.asInt .i64 b[0]? fun c => bif decide (B < c) then need (O.R 0 198 [int .i64 c, int .i64 B]) fun d => asTup (some d) fun e => asOsl e[0]? fun f g => must (true && (f + 1).ble
 140737488355328 && ((f + 1) * 1).ble 140737488355328) (must (false || (g ++ [bool false]).all flatV) (some (tup [osl (f + 1) (g ++ [bool false])]))) else need (O.R 0 198 [int .i64
 (i64.wrap (A - c)), int .i64 (i64.wrap (B - c))]) fun i => asTup (some i) fun j => asOsl j[0]? fun l n => must (true && (l + 1).ble 140737488355328 && ((l + 1) *
 1).ble 140737488355328) (must (false || (n ++ [bool true]).all flatV) (some (tup [osl (l + 1) (n ++ [bool true])])))
theorem E198 (A B) {r : V} (h : T198 (orcE C) A B = some r) : runE C 198 [int .i64 A, int .i64 B] = some r := ofR (j := 1) (F := fun s => T198 (orc C s.k) A
 B) (fun _ => by kernel_rfl) (by
  unfold T198
  repeat' first | (with_reducible first | intro _ | exact cC | apply cN cR | apply cT | apply cI | apply cM | apply cF | apply cO | apply cN cC | exact cR)) h
def T162l1 (O : Orc) (m : Nat) (A : Nat) (B : List V) (D G H I : Int) (J : Nat) (K : List V) (L : Nat) (M : List V) (N : Nat) (P : List V) :
 Option V := bif decide (G < D) then must (inB G N) (PI.asBool P[G.toNat * 1]? fun a => bif a then must (inB G J) (must (decide (G.toNat * 1 < K.length)) (asSl K[G.toNat * 1]? fun b c
 => need (O.R 0 199 [sl b c, sl L M]) fun d => asTup (some d) fun e => asOsl e[0]? fun f g => O.L 0 162 0 [true, true, true, false, true] [] m [(0, sl A B), (5, ptr 0 0), (7, ref
 1), (19, ref 2), (20, int .i64 D), (21, int .i64 (i64.wrap (G + 1)))] [Ob.box 66 [int .i64 H, int .i64 I, sl J K] false, Ob.row 5 f g false, Ob.row 4 N P false])) else
 must (inB G J) (must (decide (G.toNat * 1 < K.length)) (asSl K[G.toNat * 1]? fun i j => need (O.R 0 199 [sl L M, sl i j]) fun l => asTup (some l) fun n => asOsl n[0]? fun p
 v => O.L 0 162 0 [true, true, true, false, true] [] m [(0, sl A B), (5, ptr 0 0), (7, ref 1), (19, ref 2), (20, int .i64 D), (21, int .i64 (i64.wrap (G + 1)))] [Ob.box 66
 [int .i64 H, int .i64 I, sl J K] false, Ob.row 5 p v false, Ob.row 4 N P false]))) else need (O.R 0 76 [sl L M, sl A B]) fun w => asTup (some w) fun x => PI.asBool
 x[0]? fun y => some (tup [bool y])
theorem E162l1 (A B D G H I J K L M N P) {r : V} (h : T162l1 (orcE C) 0 A
 B D G H I J K L M N P = some r) : loopE C 162 0 [true, true, true, false, true] [] [(0, sl A B), (5, ptr 0 0), (7, ref 1), (19, ref 2), (20, int .i64 D), (21, int .i64
 G)] [Ob.box 66 [int .i64 H, int .i64 I, sl J K] false, Ob.row 5 L M false, Ob.row 4 N P false] = some r := ofL (j := 0) (F := fun s => T162l1 (orc C s.k) s.m A B D G H
 I J K L M N P) (fs0 fun _ _ => by kernel_rfl) (by
  unfold T162l1
  repeat' first | (with_reducible first | intro _ | exact cC | apply cN cR | apply cT | apply cM | apply cF | apply cB | apply cL | apply cO | apply cN cC | exact cR) | exact cD0 gM) h
def T181 (O : Orc) (A : Nat) (B : List V) : Option V := need (O.R 0 106 [sl A B]) fun a => asTup (some a) fun b => PI.asBool b[0]? fun c => some (tup
 [bool !c])
theorem E181 (A B) {r : V} (h : T181 (orcE C) A B = some r) : runE C 181 [sl A B] = some r := ofR (j := 1) (F := fun s => T181 (orc C s.k) A B) (fun _ =>
 by kernel_rfl) (by
  unfold T181
  repeat' first | (with_reducible first | intro _ | exact cC | apply cN cR | apply cT | apply cB | apply cN cC | exact cR)) h
def T201 (O : Orc) (A : Nat) (B : List V) (D : Int) (G : Nat) (H : List V) : Option V := need (O.R 0 76 [sl A B, sl G H]) fun a => asTup (some a) fun b
 => PI.asBool b[0]? fun c => some (tup [bool c])
theorem E201 (A B D G H) {r : V} (h : T201 (orcE C) A B D G H = some r) : runE C 201 [agg [sl A B, int .i64 D], pin [sl G H]
 0] = some r := ofR (j := 1) (F := fun s => T201 (orc C s.k) A B D G H) (fun _ => by kernel_rfl) (by
  unfold T201
  repeat' first | (with_reducible first | intro _ | exact cC | apply cN cR | apply cT | apply cB | apply cN cC | exact cR)) h
def T185l1 (O : Orc) (m : Nat) (A : Nat) (B : List V) (D G : Int) (H : Nat) (I : List V) : Option V := bif decide (G < 19) then need (O.R 0 190 [sl A B, int
 .i64 D, int .i64 G]) fun a => asTup (some a) fun b => asOsl b[0]? fun c d => need (O.R 0 189 [sl c d, int .i64 3]) fun e => asTup (some e) fun f => asOsl f[0]? fun g i => must
 (decide (i.length = g * 1)) (must (true && (H + g).ble 140737488355328 && ((H + g) * 1).ble 140737488355328) (O.L 0 185 0 [true, true, false, true] [] m [(0, sl A B), (1, int .i64 D), (5,
 ref 0), (6, int .i64 (i64.wrap (G + 1)))] [Ob.row 5 (H + g) (I ++ i) false])) else must (false || I.all flatV) (some (tup [osl H I]))
theorem E185l1 (A B D G H I) {r : V} (h : T185l1 (orcE C) 0 A B D G H I = some r) : loopE C 185 0 [true, true, false, true] [] [(0,
 sl A B), (1, int .i64 D), (5, ref 0), (6, int .i64 G)] [Ob.row 5 H I false] = some r := ofL (j := 0) (F := fun s => T185l1 (orc C s.k) s.m A B D G H I) (fs0 fun _ _ => by
 kernel_rfl) (by
  unfold T185l1
  repeat' first | (with_reducible first | intro _ | exact cC | apply cN cR | apply cT | apply cM | apply cF | apply cO | apply cN cC | exact cR) | exact cD0 gM) h
def T214l1 (O : Orc) (k m : Nat) (A : Nat) (B : List V) (D : Nat) (G : List V) : Option V := bif (↑D : Int).tmod 64 != 56 then must (true && (D + 1).ble 140737488355328 &&
 ((D + 1) * 1).ble 140737488355328) (O.L 0 214 0 [true, true, false] [] m [(0, sl A B), (3, ref 0)] [Ob.row 5 (D + 1) (G ++ [int .u8 0]) false]) else O.L 0 214 2 [true, true, true, true,
 false, true] [] k [(3, ref 0), (4, int .i64 (i64.wrap ((↑A : Int) * 8))), (5, int .i64 7)] [Ob.row 5 D G false]
theorem E214l1 (A B D G) {r : V} (h : T214l1 (orcE C) 0 0 A B D G = some r) : loopE C 214 0 [true, true, false] [] [(0, sl A B), (3, ref 0)]
 [Ob.row 5 D G false] = some r := ofL (j := 0) (F := fun s => T214l1 (orc C s.k) s.k s.m A B D G) (fs0 fun _ _ => by kernel_rfl) (by
  unfold T214l1
  repeat' first | (with_reducible first | intro _ | exact cC | apply cM | apply cF) | exact cD0 gK | exact cD0 gM) h
def T186l2 (O : Orc) (k m q0 : Nat) (A : Nat) (B : List V) (D G : Int) (H I J : List V) : Option V := bif decide (G < 16) then must (decide (0 ≤
 i64.wrap (i64.wrap (D + i64.wrap (4 * G)) + 4)) && decide (i64.wrap (i64.wrap (D + i64.wrap (4 * G)) + 4) ≤ (↑A : Int))) (must (decide (0 ≤
 i64.wrap (D + i64.wrap (4 * G))) && decide (i64.wrap (D + i64.wrap (4 * G)) ≤ (↑(i64.wrap (i64.wrap (D + i64.wrap (4 * G)) + 4)).toNat :
 Int))) (need (O.R 0 215 [sl ((i64.wrap (i64.wrap (D + i64.wrap (4 * G)) + 4)).toNat - (i64.wrap (D + i64.wrap (4 * G))).toNat) (List.take
 (((i64.wrap (i64.wrap (D + i64.wrap (4 * G)) + 4)).toNat - (i64.wrap (D + i64.wrap (4 * G))).toNat) * 1) (List.drop ((i64.wrap (D +
 i64.wrap (4 * G))).toNat * 1) B))]) fun a => asTup (some a) fun b => PI.asInt .i64 b[0]? fun c => must (inB G 64) (must ((int .i64 c).solid && true && (0 + G.toNat * 1 + 1).ble
 J.length && flatB C 217 [int .i64 c]) (O.L 0 186 2 [true, true, true, true, false, true, false, true, false, false, true, false, true] [q0] m [(3, ptr 0 0), (4, ptr 1 0), (5, sl A B), (6,
 int .i64 D), (7, ptr 2 0), (8, int .i64 (i64.wrap (G + 1)))] [Ob.box 217 H false, Ob.box 219 I false, Ob.box 217 (splice J (0 + G.toNat * 1) [int .i64 c]) false])))) else O.L 0
 186 4 [true, true, true, true, false, true, false, true, false, false, true, true, false, true] [q0] k [(3, ptr 0 0), (4, ptr 1 0), (5, sl A B), (6, int .i64 D), (7, ptr 2 0), (9, int
 .i64 16)] [Ob.box 217 H false, Ob.box 219 I false, Ob.box 217 J false]
theorem E186l2 (A B D G H I J) {r : V} (h : T186l2 (orcE C) 0 0 0 A B D G H I J = some r) : loopE C 186 2 [true, true,
 true, true, false, true, false, true, false, false, true, false, true] [0] [(3, ptr 0 0), (4, ptr 1 0), (5, sl A B), (6, int .i64 D), (7, ptr 2 0), (8, int .i64 G)] [Ob.box 217 H
 false, Ob.box 219 I false, Ob.box 217 J false] = some r := ofL (j := 0) (F := fun s => T186l2 (orc C s.k) s.k s.m (s.fs.getD 0 0) A B D G H I J) (fs1 fun _ _ _ => by kernel_rfl) (by
  unfold T186l2
  repeat' first | (with_reducible first | intro _ | exact cC | apply cN cR | apply cT | apply cI | apply cM | apply cF | apply cN cC | exact cR) | exact cD1 gK (gF (i := 0) (by decide)) | exact cD1 gM (gF (i := 0) (by decide))) h
def T186l3 (O : Orc) (k m : Nat) (A : Int) (B : List V) (D : Nat) (G : List V) : Option V := bif decide (A < 8) then O.L 0 186 12 [true, true, true, true, true, true, false,
 true, false, true, false, false, true] [m] k [(4, ptr 0 0), (17, ref 1), (18, int .i64 A), (19, int .i64 3)] [Ob.box 219 B false, Ob.row 5 D G false] else must (false || G.all flatV)
 (some (tup [osl D G]))
theorem E186l3 (A B D G) {r : V} (h : T186l3 (orcE C) 0 0 A B D G = some r) : loopE C 186 10 [true, true, true, true, true, true, false, true] [] [(4,
 ptr 0 0), (17, ref 1), (18, int .i64 A)] [Ob.box 219 B false, Ob.row 5 D G false] = some r := ofL (j := 0) (F := fun s => T186l3 (orc C s.k) s.k s.m A B D G) (fs0 fun _ _ => by
 kernel_rfl) (by
  unfold T186l3
  repeat' first | (with_reducible first | intro _ | exact cC | apply cM | apply cF) | exact cD1 gK gM) h
def T218 (O : Orc) (A : Nat) (B : List V) (D : Int) : Option V := bif (↑A : Int) == 1 then some (tup [osl 0 []]) else need (O.R 0 140 [int .i64 (↑A : Int)])
 fun a => asTup (some a) fun b => PI.asInt .i64 b[0]? fun c => bif decide (D < c) then must (decide (0 ≤ c) && decide (c ≤ (↑A : Int))) (must (decide (0 ≤ c) && decide (c ≤ (↑A : Int)))
 (need (O.R 0 218 [sl (c.toNat - 0) (List.take ((c.toNat - 0) * 1) (List.drop 0 B)), int .i64 D]) fun d => asTup (some d) fun e => asOsl e[0]? fun f g => need (O.R 0 68 [sl (A -
 c.toNat) (List.take ((A - c.toNat) * 1) (List.drop (c.toNat * 1) B))]) fun i => asTup (some i) fun j => asOsl j[0]? fun l n => must (n.all flatV) (must (true && (f + 1).ble
 140737488355328 && ((f + 1) * 24).ble 140737488355328) (some (tup [osl (f + 1) (g ++ [own false 5 1 l n])]))))) else must (decide (0 ≤ c) && decide (c ≤ (↑A : Int))) (must (decide (0 ≤
 c) && decide (c ≤ (↑A : Int))) (need (O.R 0 218 [sl (A - c.toNat) (List.take ((A - c.toNat) * 1) (List.drop (c.toNat * 1) B)), int .i64 (i64.wrap (D - c))]) fun p => asTup
 (some p) fun v => asOsl v[0]? fun w x => need (O.R 0 68 [sl (c.toNat - 0) (List.take ((c.toNat - 0) * 1) (List.drop 0 B))]) fun y => asTup (some y) fun z => asOsl z[0]? fun a0
 a1 => must (a1.all flatV) (must (true && (w + 1).ble 140737488355328 && ((w + 1) * 24).ble 140737488355328) (some (tup [osl (w + 1) (x ++ [own false 5 1 a0 a1])])))))
theorem E218 (A B D) {r : V} (h : T218 (orcE C) A B D = some r) : runE C 218 [sl A B, int .i64 D] = some r := ofR (j := 1) (F := fun s => T218 (orc C s.k) A B D) (fun _ => by kernel_rfl) (by
  unfold T218
  repeat' first | (with_reducible first | intro _ | exact cC | apply cN cR | apply cT | apply cI | apply cM | apply cF | apply cO | apply cN cC | exact cR)) h
def T190 (O : Orc) (A : Nat) (B : List V) (D G : Int) : Option V := must (decide (B.length = A * 1)) (must (true && (0 + A).ble 140737488355328 && ((0 +
 A) * 1).ble 140737488355328) (must (true && (0 + A + 2).ble 140737488355328 && ((0 + A + 2) * 1).ble 140737488355328) (need (O.R 0 138 [str { data := #[(107 : UInt8), (101 : UInt8), (121 :
 UInt8)] }, sl (0 + A + 2) (B ++ [int .u8 (u8.wrap D), int .u8 (u8.wrap G)])]) fun a => asTup (some a) fun b => asOsl b[0]? fun c d => must (false || d.all flatV) (some
 (tup [osl c d])))))
theorem E190 (A B D G) {r : V} (h : T190 (orcE C) A B D G = some r) : runE C 190 [sl A B, int .i64 D, int .i64 G] = some r := ofR (j := 1) (F
 := fun s => T190 (orc C s.k) A B D G) (fun _ => by kernel_rfl) (by
  unfold T190
  repeat' first | (with_reducible first | intro _ | exact cC | apply cN cR | apply cT | apply cM | apply cO | apply cN cC | exact cR)) h
def T230 (O : Orc) (A B : Int) : Option V := need (O.R 0 98 [int .i64 A, int .i64 1, int .i64 16]) fun a => asTup (some a) fun b => PI.asBool b[0]?
 fun c => bif !c then some (tup [int .i64 3, int .i64 0]) else need (O.R 0 98 [int .i64 B, int .i64 0, int .i64 (i64.wrap (A - 1))]) fun d => asTup (some d) fun e =>
 PI.asBool e[0]? fun f => bif !f then some (tup [int .i64 3, int .i64 0]) else need (O.R 0 222 [int .i64 A, int .i64 B]) fun g => asTup (some g) fun i => asOsl i[0]? fun j l =>
 some (tup [int .i64 0, int .i64 (↑j : Int)])
theorem E230 (A B) {r : V} (h : T230 (orcE C) A B = some r) : runE C 230 [int .i64 A, int .i64 B] = some r := ofR (j := 1) (F := fun s => T230 (orc C s.k) A
 B) (fun _ => by kernel_rfl) (by
  unfold T230
  repeat' first | (with_reducible first | intro _ | exact cC | apply cN cR | apply cT | apply cF | apply cB | apply cO | apply cN cC | exact cR)) h
def T221l1 (O : Orc) (m : Nat) (A B D : Int) (G : Nat) (H : List V) : Option V := bif decide (A < (↑G : Int)) then must (inB A G) (must (decide (A.toNat
 * 1 < H.length)) (asSl H[A.toNat * 1]? fun a b => bif (↑a : Int) != 32 then some (tup [bool false]) else O.L 0 221 0 [true, true, true, false, true] [] m [(1, ptr 0 0), (4, int .i64
 (i64.wrap (A + 1)))] [Ob.box 66 [int .i64 B, int .i64 D, sl G H] false])) else some (tup [bool true])
theorem E221l1 (A B D G H) {r : V} (h : T221l1 (orcE C) 0 A B D G H = some r) : loopE C 221 0 [true, true, true, false, true] [] [(1, ptr 0
 0), (4, int .i64 A)] [Ob.box 66 [int .i64 B, int .i64 D, sl G H] false] = some r := ofL (j := 0) (F := fun s => T221l1 (orc C s.k) s.m A B D G H) (fs0 fun _ _ => by
 kernel_rfl) (by
  unfold T221l1
  repeat' first | (with_reducible first | intro _ | exact cC | apply cM | apply cF | apply cL) | exact cD0 gM) h
def T188l2 (O : Orc) (m q0 : Nat) (A B D : Int) (G : Nat) (H : List V) (I : Nat) (J : List V) : Option V := bif decide (D ≥ 0) then must (inB B G) (PI.asInt
 .u8 H[B.toNat * 1]? fun a => must (decide (0 ≤ u64.wrap (i64.wrap (2 * D)))) (must (true && (I + 1).ble 140737488355328 && ((I + 1) * 8).ble 140737488355328) (O.L 0 188 2 [true,
 true, true, true, false, true, false, true, false, false, true] [q0] m [(3, ref 0), (4, ref 1), (5, int .i64 (i64.wrap (i64.wrap (A + 3) - i64.wrap (PI.bits u8
 (fun a b => a &&& b) (a.fdiv (2 ^ min (u64.wrap (i64.wrap (2 * D))).toNat 8)) 3)))), (6, int .i64 B), (7, int .i64 (i64.wrap (D - 1)))] [Ob.row 5 G H false,
 Ob.row 2 (I + 1) (J ++ [int .i64 (i64.wrap (PI.bits u8 (fun a b => a &&& b) (a.fdiv (2 ^ min (u64.wrap (i64.wrap (2 * D))).toNat 8)) 3))]) false]))) else O.L
 0 188 0 [true, true, true, true, false, true] [] q0 [(3, ref 0), (4, ref 1), (5, int .i64 A), (6, int .i64 (i64.wrap (B + 1)))] [Ob.row 5 G H false, Ob.row 2 I J false]
theorem E188l2 (A B D G H I J) {r : V} (h : T188l2 (orcE C) 0 0 A B D G H I J = some r) : loopE C 188 2 [true, true, true,
 true, false, true, false, true, false, false, true] [0] [(3, ref 0), (4, ref 1), (5, int .i64 A), (6, int .i64 B), (7, int .i64 D)] [Ob.row 5 G H false, Ob.row 2 I J false] = some r
 := ofL (j := 0) (F := fun s => T188l2 (orc C s.k) s.m (s.fs.getD 0 0) A B D G H I J) (fs1 fun _ _ _ => by kernel_rfl) (by
  unfold T188l2
  repeat' first | (with_reducible first | intro _ | exact cC | apply cI | apply cM | apply cF) | exact cD0 (gF (i := 0) (by decide)) | exact cD1 gM (gF (i := 0) (by decide))) h
def T189l1 (O : Orc) (m : Nat) (A : Nat) (B : List V) (D : Int) : Option V := bif decide (D > 0) then need (O.R 0 138 [str { data := #[(115 : UInt8), (116 : UInt8), (101 :
 UInt8), (112 : UInt8)] }, sl A B]) fun a => asTup (some a) fun b => asOsl b[0]? fun c d => O.L 0 189 0 [true, false] [] m [(0, ref 0), (1, int .i64 (i64.wrap (D - 1)))] [Ob.row
 5 c d false] else must (decide (B.length = A * 1)) (must (true && (0 + A).ble 140737488355328 && ((0 + A) * 1).ble 140737488355328) (must (false || B.all flatV) (some (tup [osl (0 + A)
 B]))))
theorem E189l1 (A B D) {r : V} (h : T189l1 (orcE C) 0 A B D = some r) : loopE C 189 0 [true, false] [] [(0, sl A B), (1, int .i64 D)] [] = some r := ofL (j
 := 0) (F := fun s => T189l1 (orc C s.k) s.m A B D) (fs0 fun _ _ => by kernel_rfl) (by
  unfold T189l1
  repeat' first | (with_reducible first | intro _ | exact cC | apply cN cR | apply cT | apply cM | apply cF | apply cO | apply cN cC | exact cR) | exact cD0 gM) h
def T222 (O : Orc) (A B : Int) : Option V := bif decide (A ≤ 1) then some (tup [osl 0 []]) else need (O.R 0 140 [int .i64 A]) fun a => asTup (some a)
 fun b => PI.asInt .i64 b[0]? fun c => bif decide (B < c) then need (O.R 0 222 [int .i64 c, int .i64 B]) fun d => asTup (some d) fun e => asOsl e[0]? fun f g => must (true && (f +
 1).ble 140737488355328 && ((f + 1) * 1).ble 140737488355328) (must (false || (g ++ [bool true]).all flatV) (some (tup [osl (f + 1) (g ++ [bool true])]))) else need (O.R 0 222 [int .i64
 (i64.wrap (A - c)), int .i64 (i64.wrap (B - c))]) fun i => asTup (some i) fun j => asOsl j[0]? fun l n => must (true && (l + 1).ble 140737488355328 && ((l + 1) *
 1).ble 140737488355328) (must (false || (n ++ [bool false]).all flatV) (some (tup [osl (l + 1) (n ++ [bool false])])))
theorem E222 (A B) {r : V} (h : T222 (orcE C) A B = some r) : runE C 222 [int .i64 A, int .i64 B] = some r := ofR (j := 1) (F := fun s => T222 (orc C s.k) A
 B) (fun _ => by kernel_rfl) (by
  unfold T222
  repeat' first | (with_reducible first | intro _ | exact cC | apply cN cR | apply cT | apply cI | apply cM | apply cF | apply cO | apply cN cC | exact cR)) h
def T195l1 (O : Orc) (m : Nat) (A : Nat) (B : List V) (D G H : Int) (I : Nat) (J : List V) (K : Nat) (L : List V) (M : Nat) (N : List V) : Option V :=
 bif decide (D < (↑M : Int)) then must (inB D M) (PI.asBool N[D.toNat * 1]? fun a => bif a then must (inB D I) (must (decide (D.toNat * 1 < J.length)) (asSl J[D.toNat * 1]? fun b c
 => need (O.R 0 141 [sl K L, sl b c]) fun d => asTup (some d) fun e => asOsl e[0]? fun f g => O.L 0 195 0 [true, true, true, true, false, true] [] m [(0, sl A B), (5, ptr 0 0), (7,
 ref 1), (8, ref 2), (9, int .i64 (i64.wrap (D + 1)))] [Ob.box 66 [int .i64 G, int .i64 H, sl I J] false, Ob.row 5 f g false, Ob.row 4 M N false])) else must (inB D I)
 (must (decide (D.toNat * 1 < J.length)) (asSl J[D.toNat * 1]? fun i j => need (O.R 0 141 [sl i j, sl K L]) fun l => asTup (some l) fun n => asOsl n[0]? fun p v => O.L 0 195 0
 [true, true, true, true, false, true] [] m [(0, sl A B), (5, ptr 0 0), (7, ref 1), (8, ref 2), (9, int .i64 (i64.wrap (D + 1)))] [Ob.box 66 [int .i64 G, int .i64 H, sl I
 J] false, Ob.row 5 p v false, Ob.row 4 M N false]))) else need (O.R 0 82 [sl K L, sl A B]) fun w => asTup (some w) fun x => PI.asBool x[0]? fun y => some (tup [bool
 y])
theorem E195l1 (A B D G H I J K L M N) {r : V} (h : T195l1 (orcE C) 0 A B D G H
 I J K L M N = some r) : loopE C 195 0 [true, true, true, true, false, true] [] [(0, sl A B), (5, ptr 0 0), (7, ref 1), (8, ref 2), (9, int .i64 D)] [Ob.box 66 [int .i64 G,
 int .i64 H, sl I J] false, Ob.row 5 K L false, Ob.row 4 M N false] = some r := ofL (j := 0) (F := fun s => T195l1 (orc C s.k) s.m A B D G H I J K L M N) (fs0 fun _ _
 => by kernel_rfl) (by
  unfold T195l1
  repeat' first | (with_reducible first | intro _ | exact cC | apply cN cR | apply cT | apply cM | apply cF | apply cB | apply cL | apply cO | apply cN cC | exact cR) | exact cD0 gM) h
def T130l3 (O : Orc) (k m : Nat) (A B : Int) (D : Nat) (G : List V) : Option V := bif decide (B ≥ 0) then must (decide (0 ≤ B)) (must (true && (D + 1).ble
 140737488355328 && ((D + 1) * 1).ble 140737488355328) (O.L 0 130 4 [true, true, true, true, true, true, false, true] [] m [(3, ref 0), (6, int .u64 A), (7, int .i64 (i64.wrap (B -
 8)))] [Ob.row 5 (D + 1) (G ++ [int .u8 (u8.wrap (A.fdiv (2 ^ min B.toNat 64)))]) false])) else O.L 0 130 6 [true, true, true, true, true, true, true, true, false] [] k [(3, ref 0), (8,
 ptr 1 0)] [Ob.row 5 D G false, Ob.box 192 [int .u32 1779033703, int .u32 3144134277, int .u32 1013904242, int .u32 2773480762, int .u32 1359893119, int .u32 2600822924, int .u32
 528734635, int .u32 1541459225] false]
theorem E130l3 (A B D G) {r : V} (h : T130l3 (orcE C) 0 0 A B D G = some r) : loopE C 130 4 [true, true, true, true, true, true, false, true] [] [(3, ref
 0), (6, int .u64 A), (7, int .i64 B)] [Ob.row 5 D G false] = some r := ofL (j := 0) (F := fun s => T130l3 (orc C s.k) s.k s.m A B D G) (fs0 fun _ _ => by kernel_rfl) (by
  unfold T130l3
  repeat' first | (with_reducible first | intro _ | exact cC | apply cM | apply cF) | exact cD0 gK | exact cD0 gM) h
def T223 (O : Orc) (A B : Int) : Option V := need (O.R 0 51 [int .i64 A, int .i64 1, int .i64 16]) fun a => asTup (some a) fun b => PI.asBool b[0]?
 fun c => bif !c then some (tup [int .i64 3, int .i64 0]) else need (O.R 0 51 [int .i64 B, int .i64 0, int .i64 (i64.wrap (A - 1))]) fun d => asTup (some d) fun e =>
 PI.asBool e[0]? fun f => bif !f then some (tup [int .i64 3, int .i64 0]) else need (O.R 0 198 [int .i64 A, int .i64 B]) fun g => asTup (some g) fun i => asOsl i[0]? fun j l =>
 some (tup [int .i64 0, int .i64 (↑j : Int)])
theorem E223 (A B) {r : V} (h : T223 (orcE C) A B = some r) : runE C 223 [int .i64 A, int .i64 B] = some r := ofR (j := 1) (F := fun s => T223 (orc C s.k) A
 B) (fun _ => by kernel_rfl) (by
  unfold T223
  repeat' first | (with_reducible first | intro _ | exact cC | apply cN cR | apply cT | apply cF | apply cB | apply cO | apply cN cC | exact cR)) h
def T224 (O : Orc) (k : Nat) (A : Int) : Option V := O.L 0 224 0 [true, true, false] [] k [(0, int .i64 A), (3, int .i64 1)] []
theorem E224 (A) {r : V} (h : T224 (orcE C) 0 A = some r) : runE C 224 [int .i64 A] = some r := ofR (j := 1) (F := fun s => T224 (orc C s.k) s.k A) (fun _ => by kernel_rfl) (by
  unfold T224
  repeat' first | with_reducible exact cC | exact cD0 gK) h
def T199 (O : Orc) (A : Nat) (B : List V) (D : Nat) (G : List V) : Option V := need (O.R 0 147 [str { data := #[(110 : UInt8), (111 : UInt8), (100 : UInt8), (101 :
 UInt8)] }, sl 2 [sl A B, sl D G]]) fun a => asTup (some a) fun b => asOsl b[0]? fun c d => must (false || d.all flatV) (some (tup [osl c d]))
theorem E199 (A B D G) {r : V} (h : T199 (orcE C) A B D G = some r) : runE C 199 [sl A B, sl D G] = some r := ofR (j := 1) (F := fun s =>
 T199 (orc C s.k) A B D G) (fun _ => by kernel_rfl) (by
  unfold T199
  repeat' first | (with_reducible first | intro _ | exact cC | apply cN cR | apply cT | apply cM | apply cO | apply cN cC | exact cR)) h
def T214l2 (O : Orc) (m : Nat) (A B : Int) (D : Nat) (G : List V) : Option V := bif decide (B ≥ 0) then must (decide (0 ≤ u64.wrap (i64.wrap (8 *
 B)))) (must (true && (D + 1).ble 140737488355328 && ((D + 1) * 1).ble 140737488355328) (O.L 0 214 2 [true, true, true, true, false, true] [] m [(3, ref 0), (4, int .i64 A), (5, int .i64
 (i64.wrap (B - 1)))] [Ob.row 5 (D + 1) (G ++ [int .u8 (u8.wrap (A.fdiv (2 ^ min (u64.wrap (i64.wrap (8 * B))).toNat 64)))]) false])) else some (tup [sl D
 G])
theorem E214l2 (A B D G) {r : V} (h : T214l2 (orcE C) 0 A B D G = some r) : loopE C 214 2 [true, true, true, true, false, true] [] [(3, ref 0), (4,
 int .i64 A), (5, int .i64 B)] [Ob.row 5 D G false] = some r := ofL (j := 0) (F := fun s => T214l2 (orc C s.k) s.m A B D G) (fs0 fun _ _ => by kernel_rfl) (by
  unfold T214l2
  repeat' first | (with_reducible first | intro _ | exact cC | apply cM | apply cF) | exact cD0 gM) h
def T215 (O : Orc) (k : Nat) (A : Nat) (B : List V) : Option V := O.L 0 215 0 [true, true, false, true] [] k [(0, sl A B), (3, int .i64 0), (4, int .i64 0)] []
theorem E215 (A B) {r : V} (h : T215 (orcE C) 0 A B = some r) : runE C 215 [sl A B] = some r := ofR (j := 1) (F := fun s => T215 (orc C s.k) s.k A B) (fun _ =>
 by kernel_rfl) (by
  unfold T215
  repeat' first | with_reducible exact cC | exact cD0 gK) h
def T186l4 (O : Orc) (k m q0 : Nat) (A : Nat) (B : List V) (D G : Int) (H I J : List V) : Option V := bif decide (G < 64) then must (inB
 (i64.wrap (G - 15)) 64) (PI.asInt .i64 J[0 + (i64.wrap (G - 15)).toNat * 1]? fun a => must (inB (i64.wrap (G - 2)) 64) (PI.asInt .i64 J[0 + (i64.wrap (G -
 2)).toNat * 1]? fun b => need (O.R 0 216 [int .i64 a, int .u64 7]) fun c => asTup (some c) fun d => PI.asInt .i64 d[0]? fun e => need (O.R 0 216 [int .i64 a, int .u64 18]) fun f =>
 asTup (some f) fun g => PI.asInt .i64 g[0]? fun i => need (O.R 0 216 [int .i64 b, int .u64 17]) fun j => asTup (some j) fun l => PI.asInt .i64 l[0]? fun n => need (O.R 0 216 [int
 .i64 b, int .u64 19]) fun p => asTup (some p) fun v => PI.asInt .i64 v[0]? fun w => must (inB (i64.wrap (G - 7)) 64) (PI.asInt .i64 J[0 + (i64.wrap (G - 7)).toNat * 1]?
 fun x => must (inB (i64.wrap (G - 16)) 64) (PI.asInt .i64 J[0 + (i64.wrap (G - 16)).toNat * 1]? fun y => must (inB G 64) (must ((int .i64 ((i64.wrap (i64.wrap
 (i64.wrap (PI.bits i64 (fun a b => a ^^^ b) (PI.bits i64 (fun a b => a ^^^ b) n w) (b.fdiv 1024) + x) + PI.bits i64 (fun a b => a ^^^ b) (PI.bits
 i64 (fun a b => a ^^^ b) e i) (a.fdiv 8)) + y)).tmod 4294967296)).solid && true && (0 + G.toNat * 1 + 1).ble J.length && flatB C 217 [int .i64 ((i64.wrap (i64.wrap
 (i64.wrap (PI.bits i64 (fun a b => a ^^^ b) (PI.bits i64 (fun a b => a ^^^ b) n w) (b.fdiv 1024) + x) + PI.bits i64 (fun a b => a ^^^ b) (PI.bits
 i64 (fun a b => a ^^^ b) e i) (a.fdiv 8)) + y)).tmod 4294967296)]) (O.L 0 186 4 [true, true, true, true, false, true, false, true, false, false, true, true, false, true] [q0] m [(3,
 ptr 0 0), (4, ptr 1 0), (5, sl A B), (6, int .i64 D), (7, ptr 2 0), (9, int .i64 (i64.wrap (G + 1)))] [Ob.box 217 H false, Ob.box 219 I false, Ob.box 217 (splice J (0 +
 G.toNat * 1) [int .i64 ((i64.wrap (i64.wrap (i64.wrap (PI.bits i64 (fun a b => a ^^^ b) (PI.bits i64 (fun a b => a ^^^ b) n w) (b.fdiv 1024) +
 x) + PI.bits i64 (fun a b => a ^^^ b) (PI.bits i64 (fun a b => a ^^^ b) e i) (a.fdiv 8)) + y)).tmod 4294967296)]) false])))))) else PI.asInt .i64 I[0]? fun z =>
 PI.asInt .i64 I[1]? fun a0 => PI.asInt .i64 I[2]? fun a1 => PI.asInt .i64 I[3]? fun a2 => PI.asInt .i64 I[4]? fun a3 => PI.asInt .i64 I[5]? fun a4 => PI.asInt .i64 I[6]? fun a5 => PI.asInt
 .i64 I[7]? fun a6 => O.L 0 186 6 [true, true, true, true, false, true, false, true, false, false, true, true, true, true, false, true] [q0] k [(3, ptr 0 0), (4, ptr 1 0), (5, sl A B), (6,
 int .i64 D), (7, ptr 2 0), (14, ptr 3 0), (15, int .i64 0)] [Ob.box 217 H false, Ob.box 219 I false, Ob.box 217 J false, Ob.box 219 [int .i64 z, int .i64 a0, int .i64 a1, int
 .i64 a2, int .i64 a3, int .i64 a4, int .i64 a5, int .i64 a6] false]
theorem E186l4 (A B D G H I J) {r : V} (h : T186l4 (orcE C) 0 0 0 A B D G H I J = some r) : loopE C 186 4 [true, true,
 true, true, false, true, false, true, false, false, true, true, false, true] [0] [(3, ptr 0 0), (4, ptr 1 0), (5, sl A B), (6, int .i64 D), (7, ptr 2 0), (9, int .i64 G)] [Ob.box 217
 H false, Ob.box 219 I false, Ob.box 217 J false] = some r := ofL (j := 0) (F := fun s => T186l4 (orc C s.k) s.k s.m (s.fs.getD 0 0) A B D G H I J) (fs1 fun _ _ _ => by kernel_rfl) (by
  unfold T186l4
  repeat' first | (with_reducible first | intro _ | exact cC | apply cN cR | apply cT | apply cI | apply cM | apply cF | apply cN cC | exact cR) | exact cD1 gK (gF (i := 0) (by decide)) | exact cD1 gM (gF (i := 0) (by decide))) h
def T186l5 (O : Orc) (m q0 : Nat) (A B : Int) (D : List V) (G : Nat) (H : List V) : Option V := bif decide (B ≥ 0) then must (inB A 8) (PI.asInt .i64 D[0 + A.toNat *
 1]? fun a => must (decide (0 ≤ u64.wrap (i64.wrap (8 * B)))) (must (true && (G + 1).ble 140737488355328 && ((G + 1) * 1).ble 140737488355328) (O.L 0 186 12 [true, true, true, true,
 true, true, false, true, false, true, false, false, true] [q0] m [(4, ptr 0 0), (17, ref 1), (18, int .i64 A), (19, int .i64 (i64.wrap (B - 1)))] [Ob.box 219 D false, Ob.row 5 (G +
 1) (H ++ [int .u8 (u8.wrap (a.fdiv (2 ^ min (u64.wrap (i64.wrap (8 * B))).toNat 64)))]) false]))) else O.L 0 186 10 [true, true, true, true, true, true, false, true] [] q0
 [(4, ptr 0 0), (17, ref 1), (18, int .i64 (i64.wrap (A + 1)))] [Ob.box 219 D false, Ob.row 5 G H false]
theorem E186l5 (A B D G H) {r : V} (h : T186l5 (orcE C) 0 0 A B D G H = some r) : loopE C 186 12 [true, true, true, true, true, true, false,
 true, false, true, false, false, true] [0] [(4, ptr 0 0), (17, ref 1), (18, int .i64 A), (19, int .i64 B)] [Ob.box 219 D false, Ob.row 5 G H false] = some r := ofL (j := 0) (F := fun s =>
 T186l5 (orc C s.k) s.m (s.fs.getD 0 0) A B D G H) (fs1 fun _ _ _ => by kernel_rfl) (by
  unfold T186l5
  repeat' first | (with_reducible first | intro _ | exact cC | apply cI | apply cM | apply cF) | exact cD0 (gF (i := 0) (by decide)) | exact cD1 gM (gF (i := 0) (by decide))) h
def T189l2 (O : Orc) (m : Nat) (A : Int) (B : Nat) (D : List V) : Option V := bif decide (A > 0) then need (O.R 0 138 [str { data := #[(115 : UInt8), (116 : UInt8), (101 :
 UInt8), (112 : UInt8)] }, sl B D]) fun a => asTup (some a) fun b => asOsl b[0]? fun c d => O.L 0 189 0 [true, false] [] m [(0, ref 0), (1, int .i64 (i64.wrap (A - 1)))] [Ob.row
 5 c d false] else must (decide (D.length = B * 1)) (must (true && (0 + B).ble 140737488355328 && ((0 + B) * 1).ble 140737488355328) (must (false || D.all flatV) (some (tup [osl (0 + B)
 D]))))
theorem E189l2 (A B D) {r : V} (h : T189l2 (orcE C) 0 A B D = some r) : loopE C 189 0 [true, false] [] [(0, ref 0), (1, int .i64 A)] [Ob.row 5 B D false] =
 some r := ofL (j := 0) (F := fun s => T189l2 (orc C s.k) s.m A B D) (fs0 fun _ _ => by kernel_rfl) (by
  unfold T189l2
  repeat' first | (with_reducible first | intro _ | exact cC | apply cN cR | apply cT | apply cM | apply cF | apply cO | apply cN cC | exact cR) | exact cD0 gM) h
def T130l4 (O : Orc) (k m : Nat) (A : Nat) (B D : List V) : Option V := bif decide ((↑A : Int) > 0) then PI.asInt .u32 D[0]? fun a => PI.asInt .u32 D[1]? fun b =>
 PI.asInt .u32 D[2]? fun c => PI.asInt .u32 D[3]? fun d => PI.asInt .u32 D[4]? fun e => PI.asInt .u32 D[5]? fun f => PI.asInt .u32 D[6]? fun g => PI.asInt .u32 D[7]? fun i => must (true &&
 decide (64 ≤ (↑A : Int))) (need (O.R 0 182 [agg [int .u32 a, int .u32 b, int .u32 c, int .u32 d, int .u32 e, int .u32 f, int .u32 g, int .u32 i], sl 64 (List.take 64
 (List.drop 0 B))]) fun j => asTup (some j) fun l => PI.asInt .u32 l[0]? fun n => PI.asInt .u32 l[1]? fun p => PI.asInt .u32 l[2]? fun v => PI.asInt .u32 l[3]? fun w => PI.asInt
 .u32 l[4]? fun x => PI.asInt .u32 l[5]? fun y => PI.asInt .u32 l[6]? fun z => PI.asInt .u32 l[7]? fun a0 => must ([int .u32 n, int .u32 p, int .u32 v, int .u32 w, int
 .u32 x, int .u32 y, int .u32 z, int .u32 a0].length.beq 8 && true && (0 + [int .u32 n, int .u32 p, int .u32 v, int .u32 w, int .u32 x, int .u32 y, int .u32 z,
 int .u32 a0].length).ble D.length && flatB C 192 [int .u32 n, int .u32 p, int .u32 v, int .u32 w, int .u32 x, int .u32 y, int .u32 z, int .u32 a0]) (must (true &&
 decide (64 ≤ (↑A : Int))) (O.L 0 130 6 [true, true, true, true, true, true, true, true, false] [] m [(3, sl (A - 64) (List.take ((A - 64) * 1) (List.drop 64 B))), (8, ptr 0 0)] [Ob.box 192
 (splice D 0 [int .u32 n, int .u32 p, int .u32 v, int .u32 w, int .u32 x, int .u32 y, int .u32 z, int .u32 a0]) false]))) else PI.asInt .u32 D[0]? fun a1 => PI.asInt
 .u32 D[1]? fun a2 => PI.asInt .u32 D[2]? fun a3 => PI.asInt .u32 D[3]? fun a4 => PI.asInt .u32 D[4]? fun a5 => PI.asInt .u32 D[5]? fun a6 => PI.asInt .u32 D[6]? fun a7 => PI.asInt .u32
 D[7]? fun a8 => O.L 0 130 8 [true, true, true, true, true, true, true, true, true, true, false, true] [] k [(9, ref 0), (59, agg [int .u32 a1, int .u32 a2, int .u32 a3, int .u32 a4,
 int .u32 a5, int .u32 a6, int .u32 a7, int .u32 a8]), (60, int .i64 0)] [Ob.row 5 0 [] false]
theorem E130l4 (A B D) {r : V} (h : T130l4 (orcE C) 0 0 A B D = some r) : loopE C 130 6 [true, true, true, true, true, true, true, true, false] [] [(3, ref 0),
 (8, ptr 1 0)] [Ob.row 5 A B false, Ob.box 192 D false] = some r := ofL (j := 0) (F := fun s => T130l4 (orc C s.k) s.k s.m A B D) (fs0 fun _ _ => by kernel_rfl) (by
  unfold T130l4
  repeat' first | (with_reducible first | intro _ | exact cC | apply cN cR | apply cT | apply cI | apply cM | apply cF | apply cN cC | exact cR) | exact cD0 gK | exact cD0 gM) h
def T224l1 (O : Orc) (m : Nat) (A B : Int) : Option V := bif decide (i64.wrap (2 * B) < A) then O.L 0 224 0 [true, true, false] [] m [(0, int .i64 A), (3,
 int .i64 (i64.wrap (B * 2)))] [] else some (tup [int .i64 B])
theorem E224l1 (A B) {r : V} (h : T224l1 (orcE C) 0 A B = some r) : loopE C 224 0 [true, true, false] [] [(0, int .i64 A), (3, int .i64 B)] [] = some r := ofL (j := 0) (F
 := fun s => T224l1 (orc C s.k) s.m A B) (fs0 fun _ _ => by kernel_rfl) (by
  unfold T224l1
  repeat' first | (with_reducible first | intro _ | exact cC | apply cF) | exact cD0 gM) h
def T215l1 (O : Orc) (m : Nat) (A : Nat) (B : List V) (D G : Int) : Option V := bif decide (G < (↑A : Int)) then must (inB G A) (PI.asInt .u8 B[G.toNat * 1]? fun
 a => O.L 0 215 0 [true, true, false, true] [] m [(0, sl A B), (3, int .i64 (i64.wrap (i64.wrap (D * 256) + i64.wrap a))), (4, int .i64 (i64.wrap (G + 1)))]
 []) else some (tup [int .i64 D])
theorem E215l1 (A B D G) {r : V} (h : T215l1 (orcE C) 0 A B D G = some r) : loopE C 215 0 [true, true, false, true] [] [(0, sl A B), (3, int .i64
 D), (4, int .i64 G)] [] = some r := ofL (j := 0) (F := fun s => T215l1 (orc C s.k) s.m A B D G) (fs0 fun _ _ => by kernel_rfl) (by
  unfold T215l1
  repeat' first | (with_reducible first | intro _ | exact cC | apply cI | apply cM | apply cF) | exact cD0 gM) h
def T216 (O : Orc) (A B : Int) : Option V := must (decide (0 ≤ B)) (must (decide (0 ≤ u64.wrap (32 - B))) (some (tup [int .i64 ((PI.bits
 i64 (fun a b => a ||| b) (A.fdiv (2 ^ min B.toNat 64)) (i64.wrap (A * 2 ^ min (u64.wrap (32 - B)).toNat 64))).tmod 4294967296)])))
theorem E216 (A B) {r : V} (h : T216 (orcE C) A B = some r) : runE C 216 [int .i64 A, int .u64 B] = some r := ofR (j := 1) (F := fun s => T216 (orc C s.k) A
 B) (fun _ => by kernel_rfl) (by
  unfold T216
  repeat' first | (with_reducible first | intro _ | exact cC | apply cM)) h
def T186l6 (O : Orc) (k m q0 : Nat) (A : Nat) (B : List V) (D G : Int) (H I J K : List V) : Option V := bif decide (G < 64) then
 PI.asInt .i64 K[0]? fun a => PI.asInt .i64 K[1]? fun b => PI.asInt .i64 K[2]? fun c => PI.asInt .i64 K[3]? fun d => PI.asInt .i64 K[4]? fun e => PI.asInt .i64 K[5]? fun f => PI.asInt .i64
 K[6]? fun g => PI.asInt .i64 K[7]? fun i => must (inB G 64) (PI.asInt .i64 J[0 + G.toNat * 1]? fun j => must (inB G 64) (PI.asInt .i64 H[0 + G.toNat * 1]? fun l => need (O.R 0 217 [agg
 [int .i64 a, int .i64 b, int .i64 c, int .i64 d, int .i64 e, int .i64 f, int .i64 g, int .i64 i], int .i64 j, int .i64 l]) fun n => asTup (some n) fun p =>
 PI.asInt .i64 p[0]? fun v => PI.asInt .i64 p[1]? fun w => PI.asInt .i64 p[2]? fun x => PI.asInt .i64 p[3]? fun y => PI.asInt .i64 p[4]? fun z => PI.asInt .i64 p[5]? fun a0 =>
 PI.asInt .i64 p[6]? fun a1 => PI.asInt .i64 p[7]? fun a2 => must ([int .i64 v, int .i64 w, int .i64 x, int .i64 y, int .i64 z, int .i64 a0, int .i64 a1, int .i64
 a2].length.beq 8 && true && (0 + [int .i64 v, int .i64 w, int .i64 x, int .i64 y, int .i64 z, int .i64 a0, int .i64 a1, int .i64 a2].length).ble K.length && flatB C 219
 [int .i64 v, int .i64 w, int .i64 x, int .i64 y, int .i64 z, int .i64 a0, int .i64 a1, int .i64 a2]) (O.L 0 186 6 [true, true, true, true, false, true, false, true, false,
 false, true, true, true, true, false, true] [q0] m [(3, ptr 0 0), (4, ptr 1 0), (5, sl A B), (6, int .i64 D), (7, ptr 2 0), (14, ptr 3 0), (15, int .i64 (i64.wrap (G + 1)))]
 [Ob.box 217 H false, Ob.box 219 I false, Ob.box 217 J false, Ob.box 219 (splice K 0 [int .i64 v, int .i64 w, int .i64 x, int .i64 y, int .i64 z, int .i64 a0, int .i64 a1,
 int .i64 a2]) false]))) else O.L 0 186 8 [true, true, true, true, false, true, false, true, false, false, true, true, true, true, true, true] [q0] k [(3, ptr 0 0), (4, ptr 1 0), (5, sl A
 B), (6, int .i64 D), (14, ptr 2 0), (16, int .i64 0)] [Ob.box 217 H false, Ob.box 219 I false, Ob.box 219 K false]
theorem E186l6 (A B D G H I J K) {r : V} (h : T186l6 (orcE C) 0 0 0 A B D G H I J K = some r) : loopE C
 186 6 [true, true, true, true, false, true, false, true, false, false, true, true, true, true, false, true] [0] [(3, ptr 0 0), (4, ptr 1 0), (5, sl A B), (6, int .i64 D), (7, ptr 2 0),
 (14, ptr 3 0), (15, int .i64 G)] [Ob.box 217 H false, Ob.box 219 I false, Ob.box 217 J false, Ob.box 219 K false] = some r := ofL (j := 0) (F := fun s => T186l6 (orc C s.k) s.k s.m (s.fs.getD
 0 0) A B D G H I J K) (fs1 fun _ _ _ => by kernel_rfl) (by
  unfold T186l6
  repeat' first | (with_reducible first | intro _ | exact cC | apply cN cR | apply cT | apply cI | apply cM | apply cF | apply cN cC | exact cR) | exact cD1 gK (gF (i := 0) (by decide)) | exact cD1 gM (gF (i := 0) (by decide))) h
def T182 (O : Orc) (k : Nat) (A B D G H I J K : Int) (L : Nat) (M : List V) : Option V := O.L 0 182 0 [true,
 true, false, true] [] k [(1, sl L M), (2, ptr 0 0), (4, ptr 1 0), (5, ptr 2 0), (16, int .i64 0)] [Ob.box 192 [int .u32 A, int .u32 B, int .u32 D, int .u32 G, int .u32 H,
 int .u32 I, int .u32 J, int .u32 K] false, Ob.box 192 [int .u32 0, int .u32 0, int .u32 0, int .u32 0, int .u32 0, int .u32 0, int .u32 0, int .u32 0] false, Ob.box 213 [int
 .u32 0, int .u32 0, int .u32 0, int .u32 0, int .u32 0, int .u32 0, int .u32 0, int .u32 0, int .u32 0, int .u32 0, int .u32 0, int .u32 0, int .u32 0, int .u32 0, int .u32
 0, int .u32 0, int .u32 0, int .u32 0, int .u32 0, int .u32 0, int .u32 0, int .u32 0, int .u32 0, int .u32 0, int .u32 0, int .u32 0, int .u32 0, int .u32 0, int .u32 0,
 int .u32 0, int .u32 0, int .u32 0, int .u32 0, int .u32 0, int .u32 0, int .u32 0, int .u32 0, int .u32 0, int .u32 0, int .u32 0, int .u32 0, int .u32 0, int .u32 0,
 int .u32 0, int .u32 0, int .u32 0, int .u32 0, int .u32 0, int .u32 0, int .u32 0, int .u32 0, int .u32 0, int .u32 0, int .u32 0, int .u32 0, int .u32 0, int .u32 0,
 int .u32 0, int .u32 0, int .u32 0, int .u32 0, int .u32 0, int .u32 0, int .u32 0] false]
theorem E182 (A B D G H I J K L M) {r : V} (h : T182 (orcE C) 0 A B D G H I J K L M = some
 r) : runE C 182 [agg [int .u32 A, int .u32 B, int .u32 D, int .u32 G, int .u32 H, int .u32 I, int .u32 J, int .u32 K], sl L M] = some r := ofR (j := 1) (F := fun s =>
 T182 (orc C s.k) s.k A B D G H I J K L M) (fun _ => by kernel_rfl) (by
  unfold T182
  repeat' first | with_reducible exact cC | exact cD0 gK) h
def T130l5 (O : Orc) (k m : Nat) (A : Nat) (B D : List V) : Option V := bif decide ((↑A : Int) > 0) then PI.asInt .u32 D[0]? fun a => PI.asInt .u32 D[1]? fun b =>
 PI.asInt .u32 D[2]? fun c => PI.asInt .u32 D[3]? fun d => PI.asInt .u32 D[4]? fun e => PI.asInt .u32 D[5]? fun f => PI.asInt .u32 D[6]? fun g => PI.asInt .u32 D[7]? fun i => must (true &&
 decide (64 ≤ (↑A : Int))) (need (O.R 0 182 [agg [int .u32 a, int .u32 b, int .u32 c, int .u32 d, int .u32 e, int .u32 f, int .u32 g, int .u32 i], sl 64 (List.take 64
 (List.drop 0 B))]) fun j => asTup (some j) fun l => PI.asInt .u32 l[0]? fun n => PI.asInt .u32 l[1]? fun p => PI.asInt .u32 l[2]? fun v => PI.asInt .u32 l[3]? fun w => PI.asInt
 .u32 l[4]? fun x => PI.asInt .u32 l[5]? fun y => PI.asInt .u32 l[6]? fun z => PI.asInt .u32 l[7]? fun a0 => must ([int .u32 n, int .u32 p, int .u32 v, int .u32 w, int
 .u32 x, int .u32 y, int .u32 z, int .u32 a0].length.beq 8 && true && (0 + [int .u32 n, int .u32 p, int .u32 v, int .u32 w, int .u32 x, int .u32 y, int .u32 z,
 int .u32 a0].length).ble D.length && flatB C 192 [int .u32 n, int .u32 p, int .u32 v, int .u32 w, int .u32 x, int .u32 y, int .u32 z, int .u32 a0]) (must (true &&
 decide (64 ≤ (↑A : Int))) (O.L 0 130 6 [true, true, true, true, true, true, true, true, false] [] m [(3, sl (A - 64) (List.take ((A - 64) * 1) (List.drop 64 B))), (8, ptr 0 0)] [Ob.box 192
 (splice D 0 [int .u32 n, int .u32 p, int .u32 v, int .u32 w, int .u32 x, int .u32 y, int .u32 z, int .u32 a0]) false]))) else PI.asInt .u32 D[0]? fun a1 => PI.asInt
 .u32 D[1]? fun a2 => PI.asInt .u32 D[2]? fun a3 => PI.asInt .u32 D[3]? fun a4 => PI.asInt .u32 D[4]? fun a5 => PI.asInt .u32 D[5]? fun a6 => PI.asInt .u32 D[6]? fun a7 => PI.asInt .u32
 D[7]? fun a8 => O.L 0 130 8 [true, true, true, true, true, true, true, true, true, true, false, true] [] k [(9, ref 0), (59, agg [int .u32 a1, int .u32 a2, int .u32 a3, int .u32 a4,
 int .u32 a5, int .u32 a6, int .u32 a7, int .u32 a8]), (60, int .i64 0)] [Ob.row 5 0 [] false]
theorem E130l5 (A B D) {r : V} (h : T130l5 (orcE C) 0 0 A B D = some r) : loopE C 130 6 [true, true, true, true, true, true, true, true, false] [] [(3, sl A
 B), (8, ptr 0 0)] [Ob.box 192 D false] = some r := ofL (j := 0) (F := fun s => T130l5 (orc C s.k) s.k s.m A B D) (fs0 fun _ _ => by kernel_rfl) (by
  unfold T130l5
  repeat' first | (with_reducible first | intro _ | exact cC | apply cN cR | apply cT | apply cI | apply cM | apply cF | apply cN cC | exact cR) | exact cD0 gK | exact cD0 gM) h
def T130l6 (O : Orc) (m : Nat) (A B D G H I J K L : Int) (M : Nat) (N : List V) : Option V := bif
 decide (L < 8) then must (inB L 8) (PI.asInt .u32 [int .u32 A, int .u32 B, int .u32 D, int .u32 G, int .u32 H, int .u32 I, int .u32 J, int .u32 K][L.toNat * 1]? fun a =>
 must (true && (M + 4).ble 140737488355328 && ((M + 4) * 1).ble 140737488355328) (O.L 0 130 8 [true, true, true, true, true, true, true, true, true, true, false, true] [] m [(9, ref 0), (59,
 agg [int .u32 A, int .u32 B, int .u32 D, int .u32 G, int .u32 H, int .u32 I, int .u32 J, int .u32 K]), (60, int .i64 (i64.wrap (L + 1)))] [Ob.row 5 (M + 4) (N
 ++ [int .u8 (u8.wrap (a.fdiv 16777216)), int .u8 (u8.wrap (a.fdiv 65536)), int .u8 (u8.wrap (a.fdiv 256)), int .u8 (u8.wrap a)]) false])) else must (false
 || N.all flatV) (some (tup [osl M N]))
theorem E130l6 (A B D G H I J K L M N) {r : V} (h : T130l6 (orcE C) 0 A B D G H I J K
 L M N = some r) : loopE C 130 8 [true, true, true, true, true, true, true, true, true, true, false, true] [] [(9, ref 0), (59, agg [int .u32 A, int .u32 B, int .u32 D, int .u32 G,
 int .u32 H, int .u32 I, int .u32 J, int .u32 K]), (60, int .i64 L)] [Ob.row 5 M N false] = some r := ofL (j := 0) (F := fun s => T130l6 (orc C s.k) s.m A B D G H I J
 K L M N) (fs0 fun _ _ => by kernel_rfl) (by
  unfold T130l6
  repeat' first | (with_reducible first | intro _ | exact cC | apply cI | apply cM | apply cF) | exact cD0 gM) h
def T217 (O : Orc) (A B D G H I J K L M : Int) : Option V := need (O.R 0 216 [int
 .i64 H, int .u64 6]) fun a => asTup (some a) fun b => PI.asInt .i64 b[0]? fun c => need (O.R 0 216 [int .i64 H, int .u64 11]) fun d => asTup (some d) fun e => PI.asInt .i64 e[0]? fun
 f => need (O.R 0 216 [int .i64 H, int .u64 25]) fun g => asTup (some g) fun i => PI.asInt .i64 i[0]? fun j => need (O.R 0 229 [int .i64 H]) fun l => asTup (some l) fun n =>
 PI.asInt .i64 n[0]? fun p => need (O.R 0 216 [int .i64 A, int .u64 2]) fun v => asTup (some v) fun w => PI.asInt .i64 w[0]? fun x => need (O.R 0 216 [int .i64 A, int .u64 13])
 fun y => asTup (some y) fun z => PI.asInt .i64 z[0]? fun a0 => need (O.R 0 216 [int .i64 A, int .u64 22]) fun a1 => asTup (some a1) fun a2 => PI.asInt .i64 a2[0]? fun a3 => some
 (tup [int .i64 ((i64.wrap ((i64.wrap (i64.wrap (i64.wrap (i64.wrap (K + PI.bits i64 (fun a b => a ^^^ b) (PI.bits i64 (fun a b => a
 ^^^ b) c f) j) + PI.bits i64 (fun a b => a ^^^ b) (PI.bits i64 (fun a b => a &&& b) H I) (PI.bits i64 (fun a b => a &&& b) p J)) + M) + L)).tmod
 4294967296 + (i64.wrap (PI.bits i64 (fun a b => a ^^^ b) (PI.bits i64 (fun a b => a ^^^ b) x a0) a3 + PI.bits i64 (fun a b => a ^^^ b) (PI.bits
 i64 (fun a b => a ^^^ b) (PI.bits i64 (fun a b => a &&& b) A B) (PI.bits i64 (fun a b => a &&& b) A D)) (PI.bits i64 (fun a b => a &&& b) B
 D))).tmod 4294967296)).tmod 4294967296), int .i64 A, int .i64 B, int .i64 D, int .i64 ((i64.wrap (G + (i64.wrap (i64.wrap (i64.wrap (i64.wrap (K +
 PI.bits i64 (fun a b => a ^^^ b) (PI.bits i64 (fun a b => a ^^^ b) c f) j) + PI.bits i64 (fun a b => a ^^^ b) (PI.bits i64 (fun a b => a &&& b) H
 I) (PI.bits i64 (fun a b => a &&& b) p J)) + M) + L)).tmod 4294967296)).tmod 4294967296), int .i64 H, int .i64 I, int .i64 J])
theorem E217 (A B D G H I J K L M) {r : V} (h : T217 (orcE C) A B D G H I J K L M = some r) :
 runE C 217 [agg [int .i64 A, int .i64 B, int .i64 D, int .i64 G, int .i64 H, int .i64 I, int .i64 J, int .i64 K], int .i64 L, int .i64 M] = some r := ofR (j := 1) (F
 := fun s => T217 (orc C s.k) A B D G H I J K L M) (fun _ => by kernel_rfl) (by
  unfold T217
  repeat' first | (with_reducible first | intro _ | exact cC | apply cN cR | apply cT | apply cI | apply cN cC | exact cR)) h
def T186l7 (O : Orc) (m q0 : Nat) (A : Nat) (B : List V) (D G : Int) (H I J : List V) : Option V := bif decide (G < 8) then must (inB G 8)
 (PI.asInt .i64 I[0 + G.toNat * 1]? fun a => must (inB G 8) (PI.asInt .i64 J[0 + G.toNat * 1]? fun b => must (inB G 8) (must ((int .i64 ((i64.wrap (a + b)).tmod 4294967296)).solid
 && true && (0 + G.toNat * 1 + 1).ble I.length && flatB C 219 [int .i64 ((i64.wrap (a + b)).tmod 4294967296)]) (O.L 0 186 8 [true, true, true, true, false, true, false, true, false,
 false, true, true, true, true, true, true] [q0] m [(3, ptr 0 0), (4, ptr 1 0), (5, sl A B), (6, int .i64 D), (14, ptr 2 0), (16, int .i64 (i64.wrap (G + 1)))] [Ob.box 217 H
 false, Ob.box 219 (splice I (0 + G.toNat * 1) [int .i64 ((i64.wrap (a + b)).tmod 4294967296)]) false, Ob.box 219 J false])))) else O.L 0 186 0 [true, true, true, true, false, true] []
 q0 [(3, ptr 0 0), (4, ptr 1 0), (5, sl A B), (6, int .i64 (i64.wrap (D + 64)))] [Ob.box 217 H false, Ob.box 219 I false]
theorem E186l7 (A B D G H I J) {r : V} (h : T186l7 (orcE C) 0 0 A B D G H I J = some r) : loopE C 186 8 [true, true,
 true, true, false, true, false, true, false, false, true, true, true, true, true, true] [0] [(3, ptr 0 0), (4, ptr 1 0), (5, sl A B), (6, int .i64 D), (14, ptr 2 0), (16, int .i64 G)]
 [Ob.box 217 H false, Ob.box 219 I false, Ob.box 219 J false] = some r := ofL (j := 0) (F := fun s => T186l7 (orc C s.k) s.m (s.fs.getD 0 0) A B D G H I J) (fs1 fun _ _ _ => by
 kernel_rfl) (by
  unfold T186l7
  repeat' first | (with_reducible first | intro _ | exact cC | apply cI | apply cM | apply cF) | exact cD0 (gF (i := 0) (by decide)) | exact cD1 gM (gF (i := 0) (by decide))) h
def T182l1 (O : Orc) (k m : Nat) (A : Nat) (B : List V) (D : Int) (G H I : List V) : Option V := bif decide (D < 64) then bif decide (D < 16) then must
 (inB (i64.wrap (4 * D)) A) (PI.asInt .u8 B[(i64.wrap (4 * D)).toNat * 1]? fun a => must (inB (i64.wrap (i64.wrap (4 * D) + 1)) A) (PI.asInt .u8
 B[(i64.wrap (i64.wrap (4 * D) + 1)).toNat * 1]? fun b => must (inB (i64.wrap (i64.wrap (4 * D) + 2)) A) (PI.asInt .u8 B[(i64.wrap (i64.wrap (4 *
 D) + 2)).toNat * 1]? fun c => must (inB (i64.wrap (i64.wrap (4 * D) + 3)) A) (PI.asInt .u8 B[(i64.wrap (i64.wrap (4 * D) + 3)).toNat * 1]? fun d => must (inB D
 64) (must ((int .u32 (PI.bits u32 (fun a b => a ||| b) (PI.bits u32 (fun a b => a ||| b) (PI.bits u32 (fun a b => a ||| b) (u32.wrap (u32.wrap a
 * 16777216)) (u32.wrap (u32.wrap b * 65536))) (u32.wrap (u32.wrap c * 256))) (u32.wrap d))).solid && true && (0 + D.toNat * 1 + 1).ble I.length && flatB C
 213 [int .u32 (PI.bits u32 (fun a b => a ||| b) (PI.bits u32 (fun a b => a ||| b) (PI.bits u32 (fun a b => a ||| b) (u32.wrap (u32.wrap a *
 16777216)) (u32.wrap (u32.wrap b * 65536))) (u32.wrap (u32.wrap c * 256))) (u32.wrap d))]) (O.L 0 182 0 [true, true, false, true] [] m [(1, sl A B), (2,
 ptr 0 0), (4, ptr 1 0), (5, ptr 2 0), (16, int .i64 (i64.wrap (D + 1)))] [Ob.box 192 G false, Ob.box 192 H false, Ob.box 213 (splice I (0 + D.toNat * 1) [int .u32 (PI.bits
 u32 (fun a b => a ||| b) (PI.bits u32 (fun a b => a ||| b) (PI.bits u32 (fun a b => a ||| b) (u32.wrap (u32.wrap a * 16777216)) (u32.wrap
 (u32.wrap b * 65536))) (u32.wrap (u32.wrap c * 256))) (u32.wrap d))]) false])))))) else must (inB (i64.wrap (D - 15)) 64) (PI.asInt .u32 I[0 +
 (i64.wrap (D - 15)).toNat * 1]? fun e => must (inB (i64.wrap (D - 2)) 64) (PI.asInt .u32 I[0 + (i64.wrap (D - 2)).toNat * 1]? fun f => need (O.R 0 209 [int .u32 e,
 int .i64 (-7)]) fun g => asTup (some g) fun i => PI.asInt .u32 i[0]? fun j => need (O.R 0 209 [int .u32 e, int .i64 (-18)]) fun l => asTup (some l) fun n => PI.asInt .u32 n[0]? fun
 p => need (O.R 0 209 [int .u32 f, int .i64 (-17)]) fun v => asTup (some v) fun w => PI.asInt .u32 w[0]? fun x => need (O.R 0 209 [int .u32 f, int .i64 (-19)]) fun y => asTup
 (some y) fun z => PI.asInt .u32 z[0]? fun a0 => must (inB (i64.wrap (D - 7)) 64) (PI.asInt .u32 I[0 + (i64.wrap (D - 7)).toNat * 1]? fun a1 => must (inB (i64.wrap
 (D - 16)) 64) (PI.asInt .u32 I[0 + (i64.wrap (D - 16)).toNat * 1]? fun a2 => must (inB D 64) (must ((int .u32 (u32.wrap (u32.wrap (u32.wrap (PI.bits u32
 (fun a b => a ^^^ b) (PI.bits u32 (fun a b => a ^^^ b) x a0) (f.fdiv 1024) + a1) + PI.bits u32 (fun a b => a ^^^ b) (PI.bits u32 (fun a b => a ^^^ b) j
 p) (e.fdiv 8)) + a2))).solid && true && (0 + D.toNat * 1 + 1).ble I.length && flatB C 213 [int .u32 (u32.wrap (u32.wrap (u32.wrap (PI.bits u32 (fun a b => a
 ^^^ b) (PI.bits u32 (fun a b => a ^^^ b) x a0) (f.fdiv 1024) + a1) + PI.bits u32 (fun a b => a ^^^ b) (PI.bits u32 (fun a b => a ^^^ b) j p) (e.fdiv 8)) +
 a2))]) (O.L 0 182 0 [true, true, false, true] [] m [(1, sl A B), (2, ptr 0 0), (4, ptr 1 0), (5, ptr 2 0), (16, int .i64 (i64.wrap (D + 1)))] [Ob.box 192 G false, Ob.box 192 H
 false, Ob.box 213 (splice I (0 + D.toNat * 1) [int .u32 (u32.wrap (u32.wrap (u32.wrap (PI.bits u32 (fun a b => a ^^^ b) (PI.bits u32 (fun a b => a
 ^^^ b) x a0) (f.fdiv 1024) + a1) + PI.bits u32 (fun a b => a ^^^ b) (PI.bits u32 (fun a b => a ^^^ b) j p) (e.fdiv 8)) + a2))]) false])))))) else PI.asInt .u32
 G[0]? fun a3 => PI.asInt .u32 G[1]? fun a4 => PI.asInt .u32 G[2]? fun a5 => PI.asInt .u32 G[3]? fun a6 => PI.asInt .u32 G[4]? fun a7 => PI.asInt .u32 G[5]? fun a8 => PI.asInt .u32 G[6]?
 fun a9 => PI.asInt .u32 G[7]? fun b0 => need (O.R 0 210 []) fun b1 => PI.asAgg (some b1) fun b2 => O.L 0 182 2 [true, true, true, true, false, true] [] k [(2, ptr 0 0), (4, ptr 1 0), (5,
 ptr 2 0), (11, ptr 3 0), (97, agg (renV.renL [] b2)), (98, int .i64 0)] [Ob.box 192 G false, Ob.box 192 H false, Ob.box 213 I false, Ob.box 192 [int .u32 a3, int .u32 a4, int .u32
 a5, int .u32 a6, int .u32 a7, int .u32 a8, int .u32 a9, int .u32 b0] false]
theorem E182l1 (A B D G H I) {r : V} (h : T182l1 (orcE C) 0 0 A B D G H I = some r) : loopE C 182 0 [true, true, false, true]
 [] [(1, sl A B), (2, ptr 0 0), (4, ptr 1 0), (5, ptr 2 0), (16, int .i64 D)] [Ob.box 192 G false, Ob.box 192 H false, Ob.box 213 I false] = some r := ofL (j := 0) (F := fun s => T182l1 (orc C s.k) s.k s.m A B D G H I) (fs0 fun _ _ => by kernel_rfl) (by
  unfold T182l1
  repeat' first | (with_reducible first | intro _ | exact cC | apply cN cR | apply cT | apply cI | apply cM | apply cF | apply cA | apply cN cC | exact cR) | exact cD0 gK | exact cD0 gM) h
def T229 (O : Orc) (A : Int) : Option V := some (tup [int .i64 (i64.wrap (4294967295 - A))])
theorem E229 (A) {r : V} (h : T229 (orcE C) A = some r) : runE C 229 [int .i64 A] = some r := ofR (j := 1) (F := fun s => T229 (orc C s.k) A) (fun _ => by kernel_rfl) (by
  unfold T229
  exact cC) h
def T209 (O : Orc) (A B : Int) : Option V := must (decide (0 ≤ u64.wrap (32 - PI.bits u64 (fun a b => a &&& b) (u64.wrap B) 31)))
 (some (tup [int .u32 (PI.bits u32 (fun a b => a ||| b) (u32.wrap (A * 2 ^ min (PI.bits u64 (fun a b => a &&& b) (u64.wrap B) 31).toNat 32)) (A.fdiv (2 ^
 min (u64.wrap (32 - PI.bits u64 (fun a b => a &&& b) (u64.wrap B) 31)).toNat 32)))]))
theorem E209 (A B) {r : V} (h : T209 (orcE C) A B = some r) : runE C 209 [int .u32 A, int .i64 B] = some r := ofR (j := 1) (F := fun s => T209 (orc C s.k) A
 B) (fun _ => by kernel_rfl) (by
  unfold T209
  repeat' first | (with_reducible first | intro _ | exact cC | apply cM)) h
def T210 (O : Orc)  : Option V := some (agg [int .u32 1116352408, int .u32 1899447441, int .u32 3049323471, int .u32 3921009573, int .u32 961987163, int
 .u32 1508970993, int .u32 2453635748, int .u32 2870763221, int .u32 3624381080, int .u32 310598401, int .u32 607225278, int .u32 1426881987, int .u32 1925078388, int .u32 2162078206,
 int .u32 2614888103, int .u32 3248222580, int .u32 3835390401, int .u32 4022224774, int .u32 264347078, int .u32 604807628, int .u32 770255983, int .u32 1249150122, int .u32
 1555081692, int .u32 1996064986, int .u32 2554220882, int .u32 2821834349, int .u32 2952996808, int .u32 3210313671, int .u32 3336571891, int .u32 3584528711, int .u32 113926993, int
 .u32 338241895, int .u32 666307205, int .u32 773529912, int .u32 1294757372, int .u32 1396182291, int .u32 1695183700, int .u32 1986661051, int .u32 2177026350, int .u32 2456956037,
 int .u32 2730485921, int .u32 2820302411, int .u32 3259730800, int .u32 3345764771, int .u32 3516065817, int .u32 3600352804, int .u32 4094571909, int .u32 275423344, int .u32
 430227734, int .u32 506948616, int .u32 659060556, int .u32 883997877, int .u32 958139571, int .u32 1322822218, int .u32 1537002063, int .u32 1747873779, int .u32 1955562222, int
 .u32 2024104815, int .u32 2227730452, int .u32 2361852424, int .u32 2428436474, int .u32 2756734187, int .u32 3204031479, int .u32 3329325298])
theorem E210  {r : V} (h : T210 (orcE C)  = some r) : runE C 210 [] = some r := ofR (j := 1) (F := fun s => T210 (orc C s.k) ) (fun _ => by kernel_rfl) (by
  unfold T210
  exact cC) h
def T182l2 (O : Orc) (k m : Nat) (A : List V) (B : Int) (D G H I : List V) : Option V := bif decide (B < 64) then must (inB B 64) (PI.asInt
 .u32 A[B.toNat * 1]? fun a => PI.asInt .u32 I[0]? fun b => PI.asInt .u32 I[1]? fun c => PI.asInt .u32 I[2]? fun d => PI.asInt .u32 I[3]? fun e => PI.asInt .u32 I[4]? fun f => PI.asInt
 .u32 I[5]? fun g => PI.asInt .u32 I[6]? fun i => PI.asInt .u32 I[7]? fun j => must (inB B 64) (PI.asInt .u32 H[0 + B.toNat * 1]? fun l => need (O.R 0 211 [agg [int .u32 b, int .u32
 c, int .u32 d, int .u32 e, int .u32 f, int .u32 g, int .u32 i, int .u32 j], int .u32 l, int .u32 a]) fun n => asTup (some n) fun p => PI.asInt .u32 p[0]? fun v =>
 PI.asInt .u32 p[1]? fun w => PI.asInt .u32 p[2]? fun x => PI.asInt .u32 p[3]? fun y => PI.asInt .u32 p[4]? fun z => PI.asInt .u32 p[5]? fun a0 => PI.asInt .u32 p[6]? fun a1 =>
 PI.asInt .u32 p[7]? fun a2 => must ([int .u32 v, int .u32 w, int .u32 x, int .u32 y, int .u32 z, int .u32 a0, int .u32 a1, int .u32 a2].length.beq 8 && true && (0 +
 [int .u32 v, int .u32 w, int .u32 x, int .u32 y, int .u32 z, int .u32 a0, int .u32 a1, int .u32 a2].length).ble I.length && flatB C 192 [int .u32 v, int .u32 w,
 int .u32 x, int .u32 y, int .u32 z, int .u32 a0, int .u32 a1, int .u32 a2]) (O.L 0 182 2 [true, true, true, true, false, true] [] m [(2, ptr 0 0), (4, ptr 1 0), (5, ptr 2
 0), (11, ptr 3 0), (97, agg (renV.renL [] A)), (98, int .i64 (i64.wrap (B + 1)))] [Ob.box 192 D false, Ob.box 192 G false, Ob.box 213 H false, Ob.box 192 (splice I 0 [int .u32
 v, int .u32 w, int .u32 x, int .u32 y, int .u32 z, int .u32 a0, int .u32 a1, int .u32 a2]) false]))) else O.L 0 182 4 [true, true, true, true, true, false, true] [] k [(2,
 ptr 0 0), (4, ptr 1 0), (11, ptr 2 0), (109, int .i64 0)] [Ob.box 192 D false, Ob.box 192 G false, Ob.box 192 I false]
theorem E182l2 (A B D G H I) {r : V} (h : T182l2 (orcE C) 0 0 A B D G H I = some r) : loopE C 182 2 [true, true, true, true,
 false, true] [] [(2, ptr 0 0), (4, ptr 1 0), (5, ptr 2 0), (11, ptr 3 0), (97, agg A), (98, int .i64 B)] [Ob.box 192 D false, Ob.box 192 G false, Ob.box 213 H false, Ob.box 192 I
 false] = some r := ofL (j := 0) (F := fun s => T182l2 (orc C s.k) s.k s.m A B D G H I) (fs0 fun _ _ => by kernel_rfl) (by
  unfold T182l2
  repeat' first | (with_reducible first | intro _ | exact cC | apply cN cR | apply cT | apply cI | apply cM | apply cF | apply cN cC | exact cR) | exact cD0 gK | exact cD0 gM) h
def T211 (O : Orc) (A B D G H I J K L M : Int) : Option V := need (O.R 0 228 [int
 .u32 H, int .i64 6]) fun a => asTup (some a) fun b => PI.asInt .u32 b[0]? fun c => need (O.R 0 228 [int .u32 H, int .i64 11]) fun d => asTup (some d) fun e => PI.asInt .u32 e[0]? fun
 f => need (O.R 0 228 [int .u32 H, int .i64 25]) fun g => asTup (some g) fun i => PI.asInt .u32 i[0]? fun j => need (O.R 0 228 [int .u32 A, int .i64 2]) fun l => asTup (some l) fun
 n => PI.asInt .u32 n[0]? fun p => need (O.R 0 228 [int .u32 A, int .i64 13]) fun v => asTup (some v) fun w => PI.asInt .u32 w[0]? fun x => need (O.R 0 228 [int .u32 A, int
 .i64 22]) fun y => asTup (some y) fun z => PI.asInt .u32 z[0]? fun a0 => some (tup [int .u32 (u32.wrap (u32.wrap (u32.wrap (u32.wrap (u32.wrap (K
 + PI.bits u32 (fun a b => a ^^^ b) (PI.bits u32 (fun a b => a ^^^ b) c f) j) + PI.bits u32 (fun a b => a ^^^ b) (PI.bits u32 (fun a b => a &&& b) H
 I) (PI.bits u32 (fun a b => a &&& b) (PI.bits u32 (fun a b => a ^^^ b) 4294967295 H) J)) + M) + L) + u32.wrap (PI.bits u32 (fun a b => a ^^^ b)
 (PI.bits u32 (fun a b => a ^^^ b) p x) a0 + PI.bits u32 (fun a b => a ^^^ b) (PI.bits u32 (fun a b => a ^^^ b) (PI.bits u32 (fun a b => a &&& b) A
 B) (PI.bits u32 (fun a b => a &&& b) A D)) (PI.bits u32 (fun a b => a &&& b) B D)))), int .u32 A, int .u32 B, int .u32 D, int .u32 (u32.wrap (G +
 u32.wrap (u32.wrap (u32.wrap (u32.wrap (K + PI.bits u32 (fun a b => a ^^^ b) (PI.bits u32 (fun a b => a ^^^ b) c f) j) + PI.bits u32
 (fun a b => a ^^^ b) (PI.bits u32 (fun a b => a &&& b) H I) (PI.bits u32 (fun a b => a &&& b) (PI.bits u32 (fun a b => a ^^^ b) 4294967295 H) J)) + M) +
 L))), int .u32 H, int .u32 I, int .u32 J])
theorem E211 (A B D G H I J K L M) {r : V} (h : T211 (orcE C) A B D G H I J K L M = some r) :
 runE C 211 [agg [int .u32 A, int .u32 B, int .u32 D, int .u32 G, int .u32 H, int .u32 I, int .u32 J, int .u32 K], int .u32 L, int .u32 M] = some r := ofR (j := 1) (F
 := fun s => T211 (orc C s.k) A B D G H I J K L M) (fun _ => by kernel_rfl) (by
  unfold T211
  repeat' first | (with_reducible first | intro _ | exact cC | apply cN cR | apply cT | apply cI | apply cN cC | exact cR)) h
def T182l3 (O : Orc) (m : Nat) (A : Int) (B D G : List V) : Option V := bif decide (A < 8) then must (inB A 8) (PI.asInt .u32 G[0 + A.toNat * 1]? fun
 a => must (inB A 8) (PI.asInt .u32 B[0 + A.toNat * 1]? fun b => must (inB A 8) (must ((int .u32 (u32.wrap (a + b))).solid && true && (0 + A.toNat * 1 + 1).ble G.length && flatB C
 192 [int .u32 (u32.wrap (a + b))]) (O.L 0 182 4 [true, true, true, true, true, false, true] [] m [(2, ptr 0 0), (4, ptr 1 0), (11, ptr 2 0), (109, int .i64 (i64.wrap (A +
 1)))] [Ob.box 192 B false, Ob.box 192 D false, Ob.box 192 (splice G (0 + A.toNat * 1) [int .u32 (u32.wrap (a + b))]) false])))) else PI.asInt .u32 G[0]? fun c => PI.asInt .u32 G[1]?
 fun d => PI.asInt .u32 G[2]? fun e => PI.asInt .u32 G[3]? fun f => PI.asInt .u32 G[4]? fun g => PI.asInt .u32 G[5]? fun i => PI.asInt .u32 G[6]? fun j => PI.asInt .u32 G[7]? fun l =>
 must ([int .u32 c, int .u32 d, int .u32 e, int .u32 f, int .u32 g, int .u32 i, int .u32 j, int .u32 l].length.beq 8 && true && (0 + [int .u32 c, int .u32 d, int .u32
 e, int .u32 f, int .u32 g, int .u32 i, int .u32 j, int .u32 l].length).ble D.length && flatB C 192 [int .u32 c, int .u32 d, int .u32 e, int .u32 f, int .u32 g, int
 .u32 i, int .u32 j, int .u32 l]) (some (tup [int .u32 c, int .u32 d, int .u32 e, int .u32 f, int .u32 g, int .u32 i, int .u32 j, int .u32 l]))
theorem E182l3 (A B D G) {r : V} (h : T182l3 (orcE C) 0 A B D G = some r) : loopE C 182 4 [true, true, true, true, true, false, true] [] [(2, ptr
 0 0), (4, ptr 1 0), (11, ptr 2 0), (109, int .i64 A)] [Ob.box 192 B false, Ob.box 192 D false, Ob.box 192 G false] = some r := ofL (j := 0) (F := fun s => T182l3 (orc C s.k) s.m A
 B D G) (fs0 fun _ _ => by kernel_rfl) (by
  unfold T182l3
  repeat' first | (with_reducible first | intro _ | exact cC | apply cI | apply cM | apply cF) | exact cD0 gM) h
def T228 (O : Orc) (A B : Int) : Option V := need (O.R 0 209 [int .u32 A, int .i64 (i64.wrap (0 - B))]) fun a => asTup (some a) fun b =>
 PI.asInt .u32 b[0]? fun c => some (tup [int .u32 c])
theorem E228 (A B) {r : V} (h : T228 (orcE C) A B = some r) : runE C 228 [int .u32 A, int .i64 B] = some r := ofR (j := 1) (F := fun s => T228 (orc C s.k) A
 B) (fun _ => by kernel_rfl) (by
  unfold T228
  repeat' first | (with_reducible first | intro _ | exact cC | apply cN cR | apply cT | apply cI | apply cN cC | exact cR)) h
end Go.Proofs.YtodapaplfjfnlaaGreat.EqQ
