/-
  PI: a plain interpreter of the model's code over abstract values: slices that came in lie inline, rows of the activation's own are numbered objects, calls are by value. Here: its definitions alone.
-/
import GoSem.Step
namespace Go.PI
open Go
inductive Leaf where
  | int (k : IntKind) | bool | str | sl | oth
inductive Ty where
  | int (k : IntKind) | bool | str | slice (e : Nat) | struct (fs : List (Nat × Nat)) | arr (n : Nat) (e : Nat) | ptr (e : Nat) | oth
structure TI where
  ty : Ty
  size : Nat
  bytes : Nat
  agg : Bool
  leaves : List Leaf
  zero : List Value
inductive V where
  | u | bool (b : Bool) | int (k : IntKind) (n : Int) | str (s : ByteArray)
  | nilsl | nilp | nilf | nili
  | sl (n : Nat) (cs : List V)
  | osl (n : Nat) (cs : List V)
  | ref (id : Nat)
  | prj (cs : List V) (off : Nat)
  | ptr (id : Nat) (off : Nat)
  | pin (cs : List V) (off : Nat)
  | fn (f : FuncId) (caps : List V)
  | agg (cs : List V)
  | tup (cs : List V)
  | own (ne : Bool) (t sz n : Nat) (cs : List V)
inductive Ob where
  | gone
  | nrow (h : List (Nat × Nat)) (t : Nat) (n : Nat) (cs : List V)
  | box (t : Nat) (cs : List V) (shut : Bool)
  | row (t : Nat) (n : Nat) (cs : List V) (shut : Bool)
abbrev Env := List (Nat × V)
abbrev Obs := List Ob
def kbeq : IntKind → IntKind → Bool
  | .i8, .i8 | .i16, .i16 | .i32, .i32 | .i64, .i64 | .u8, .u8 | .u16, .u16 | .u32, .u32 | .u64, .u64 => true
  | _, _ => false
def look : Env → Nat → V
  | [], _ => .u
  | (s, v) :: r, t => bif Nat.beq s t then v else look r t
def ofConst : Value → V
  | .bool b => .bool b
  | .int k n => .int k n
  | .string s => .str s
  | .slice none 0 0 => .nilsl
  | .pointer none => .nilp
  | .nilFunc => .nilf
  | .nilIface => .nili
  | _ => .u
def ofConsts : List Value → List V
  | [] => []
  | v :: r => ofConst v :: ofConsts r
def ev (e : Env) : Operand → V
  | .tmp t => look e t
  | .const v => ofConst v
  | .func f => .fn f []
  | .global _ => .u
def evs (e : Env) : List Operand → List V
  | [] => []
  | x :: r => ev e x :: evs e r
section
variable {α : Type}
def asInt (k : IntKind) (v : Option V) (K : Int → Option α) : Option α :=
  match v with
  | some (.int k' n) => bif kbeq k' k then K n else none
  | _ => none
def asBool (v : Option V) (K : Bool → Option α) : Option α :=
  match v with
  | some (.bool b) => K b
  | _ => none
def asStr (v : Option V) (K : ByteArray → Option α) : Option α :=
  match v with
  | some (.str s) => K s
  | _ => none
def asAgg (v : Option V) (K : List V → Option α) : Option α :=
  match v with
  | some (.agg cs) => K cs
  | _ => none
def asSl (v : Option V) (K : Nat → List V → Option α) : Option α :=
  match v with
  | some (.sl n cs) => K n cs
  | _ => none
def asOsl (v : Option V) (K : Nat → List V → Option α) : Option α :=
  match v with
  | some (.osl n cs) => K n cs
  | _ => none
def ask (b : Bool) (K : Bool → Option α) : Option α := match b with | true => K true | false => K false
def must (b : Bool) (K : Option α) : Option α := bif b then K else none
def get (v : Option V) (K : V → Option α) : Option α := match v with | some x => K x | none => none
def need {β : Type} (v : Option β) (K : β → Option α) : Option α := match v with | some x => K x | none => none
def slOf (obs : Obs) (v : V) (K : Nat → List V → Option α) : Option α :=
  match v with
  | .nilsl => K 0 []
  | .sl n cs => K n cs
  | .prj cs off => asSl cs[off]? K
  | .ref id => match obs[id]? with
    | some (.row _ n cs _) => K n cs
    | _ => none
  | _ => none
end
def slLen {α : Type} (obs : Obs) (v : V) (K : Nat → Option α) : Option α :=
  match v with
  | .ref id => match obs[id]? with
    | some (.nrow _ _ n _) => K n
    | _ => slOf obs (.ref id) fun n _ => K n
  | v => slOf obs v fun n _ => K n
def hasSl : List Leaf → Bool
  | [] => false
  | .sl :: _ => true
  | .oth :: _ => true
  | _ :: r => hasSl r
def memN (x : Nat) : List Nat → Bool
  | [] => false
  | y :: r => Nat.beq x y || memN x r
def setOb : Obs → Nat → Ob → Obs
  | [], _, _ => []
  | _ :: r, 0, x => x :: r
  | o :: r, i + 1, x => o :: setOb r i x
def splice (cs : List V) (off : Nat) (xs : List V) : List V := cs.take off ++ xs ++ cs.drop (off + xs.length)
mutual
def bareV : V → V
  | .own _ _ _ n cs => .sl n (bareL cs)
  | v => v
def bareL : List V → List V
  | [] => []
  | v :: r => bareV v :: bareL r
end
def plug : List (Nat × Nat) → List V → List V
  | [], cs => cs
  | p :: h, cs => (plug h cs).set p.1 .u
def shutOb : Ob → Ob
  | .gone => .gone
  | .nrow [] t n cs => .row t n (bareL cs) true
  | .nrow _ _ _ _ => .gone
  | .box t cs _ => .box t cs true
  | .row t n cs _ => .row t n cs true
def shutAt (obs : Obs) (id : Nat) : Obs := match obs[id]? with | some o => setOb obs id (shutOb o) | none => obs
def V.solid : V → Bool
  | .u | .agg _ | .tup _ | .prj _ _ | .osl _ _ | .own .. => false
  | _ => true
def V.cells : V → List V
  | .agg cs => cs
  | v => [v]
def V.idFree : V → Bool
  | .bool _ | .int _ _ | .str _ | .nilsl | .nilp | .nilf | .nili | .sl _ _ | .pin _ _ => true
  | _ => false
structure Prim where
  run : (α : Type) → List V → Obs → (V → Obs → Option α) → Option α
structure NM where
  rows : Nat → Bool
  out : Bool
inductive Plan where
  | done | take (i : Nat) (p : Plan) | alt (i : Nat) (p rest : Plan) | nil | late (i : Nat) (p : Plan) | drop (i : Nat) (p : Plan)
structure Cfg where
  code : Nat → Option Func
  ty : Nat → Option TI
  inl : Nat → Bool
  wri : Nat → Nat
  els : Nat → List Nat
  own : Nat → List (Option Nat)
  live : Nat → Nat → List Nat
  plan : Nat → Nat → List Nat × List Nat × List Nat × Plan
  prim : Nat → Option Prim
  nest : Nat → NM := fun _ => ⟨fun _ => false, false⟩
def flatV : V → Bool
  | .int _ _ | .bool _ | .str _ | .nili | .nilp | .nilf => true
  | _ => false
def holeAt (x : Nat) : List (Nat × Nat) → Bool
  | [] => false
  | p :: h => Nat.beq x p.1 || holeAt x h
section
variable (C : Cfg) {α : Type}
def flatB (t : Nat) (vs : List V) : Bool := match C.ty t with
  | some ti => hasSl ti.leaves || vs.all V.idFree
  | none => true
def intoRow (obs : Obs) (v : V) (K : V → Obs → Option α) : Option α :=
  match v with
  | .ref id => match obs[id]? with
    | some (.row _ n cs _) => K (.sl n cs) (shutAt obs id)
    | some (.nrow [] _ n cs) => K (.sl n (bareL cs)) (shutAt obs id)
    | _ => none
  | .prj cs off => asSl cs[off]? fun n cs' => K (.sl n cs') obs
  | .nilsl => K (.sl 0 []) obs
  | .agg _ => none
  | .tup _ => none
  | .u => none
  | .own .. => none
  | .osl _ _ => none
  | .pin _ _ => none
  | .ptr _ _ => none
  | .fn _ _ => none
  | v => K v obs
def intoRows (obs : Obs) : List V → (List V → Obs → Option α) → Option α
  | [], K => K [] obs
  | v :: r, K => intoRow obs v fun x obs => intoRows obs r fun xs obs => K (x :: xs) obs
def lendTo0 (obs : Obs) (v : V) (K : V → Option α) : Option α :=
  match v with
  | .ref id => match obs[id]? with
    | some (.row _ n cs _) => K (.sl n cs)
    | some (.nrow [] _ n cs) => K (.sl n (bareL cs))
    | _ => none
  | .prj cs off => asSl cs[off]? fun n cs' => K (.sl n cs')
  | .nilsl => K (.sl 0 [])
  | .fn f caps => must (caps.all V.idFree) (K (.fn f caps))
  | v => must v.idFree (K v)
def lendTos (obs : Obs) : List V → (List V → Option α) → Option α
  | [], K => K []
  | v :: r, K => lendTo0 obs v fun x => lendTos obs r fun xs => K (x :: xs)
def lendP (obs : Obs) (v : V) (K : V → Option α) : Option α :=
  match v with
  | .ptr id off => match obs[id]? with
    | some (.box _ cs _) => lendTos obs cs fun cs' => K (.pin cs' off)
    | _ => none
  | v => lendTo0 obs v K
def lendPs (obs : Obs) : List V → (List V → Option α) → Option α
  | [], K => K []
  | v :: r, K => lendP obs v fun x => lendPs obs r fun xs => K (x :: xs)
def lendTo (obs : Obs) (v : V) (K : V → Option α) : Option α :=
  match v with
  | .fn f caps => lendPs obs caps fun caps' => K (.fn f caps')
  | v => lendP obs v K
def leavesOf (lazy : Bool) (cs : List V) (off : Nat) : List Leaf → (List V → Option α) → Option α
  | [], K => K []
  | .int k :: r, K => asInt k cs[off]? fun n => leavesOf lazy cs (off + 1) r fun xs => K (.int k n :: xs)
  | .bool :: r, K => asBool cs[off]? fun b => leavesOf lazy cs (off + 1) r fun xs => K (.bool b :: xs)
  | .str :: r, K => asStr cs[off]? fun s => leavesOf lazy cs (off + 1) r fun xs => K (.str s :: xs)
  | .sl :: r, K => bif lazy then asSl cs[off]? fun n cs' => leavesOf lazy cs (off + 1) r fun xs => K (.sl n cs' :: xs)
      else get cs[off]? fun v => leavesOf lazy cs (off + 1) r fun xs => K (v :: xs)
  | .oth :: r, K => get cs[off]? fun v => leavesOf lazy cs (off + 1) r fun xs => K (v :: xs)
def loadFrom (ti : TI) (lazy : Bool) (cs : List V) (off : Nat) (K : V → Option α) : Option α :=
  bif ti.agg then
    bif Nat.ble ti.leaves.length 48 then leavesOf lazy cs off ti.leaves fun xs => K (.agg xs)
    else must (Nat.ble (off + ti.size) cs.length) (K (.agg ((cs.drop off).take ti.size)))
  else match ti.leaves with
    | [.sl] => bif lazy then must (decide (off < cs.length)) (K (.prj cs off)) else get cs[off]? K
    | [.int k] => asInt k cs[off]? fun n => K (.int k n)
    | [.bool] => asBool cs[off]? fun b => K (.bool b)
    | [.str] => asStr cs[off]? fun s => K (.str s)
    | _ => get cs[off]? K
def load (obs : Obs) (t : Nat) (p : V) (K : V → Option α) : Option α :=
  need (C.ty t) fun ti =>
  match p with
  | .ptr id off => match obs[id]? with
    | some (.box _ cs _) => loadFrom ti false cs off K
    | some (.row _ _ cs _) => loadFrom ti true cs off K
    | _ => none
  | .pin cs off => loadFrom ti true cs off K
  | _ => none
def asOwn (ne : Bool) (t sz : Nat) (v : Option V) (K : Nat → List V → Option α) : Option α :=
  match v with
  | some (.own ne' t' sz' n cs) => must ((ne == ne') && (Nat.beq t t' && Nat.beq sz sz')) (K n cs)
  | _ => none
def ownV (obs : Obs) (v : V) (K : V → Obs → Option α) : Option α :=
  match v with
  | .ref k => match obs[k]? with
    | some (.row e m c false) => need (C.ty e) fun te => must (c.all flatV) (K (.own false e te.size m c) (setOb obs k .gone))
    | some (.nrow [] e m c) => need (C.ty e) fun te => K (.own true e te.size m c) (setOb obs k .gone)
    | _ => none
  | .nilsl => K (.sl 0 []) obs
  | v => must (flatV v) (K v obs)
def ownIn (obs : Obs) : List V → (List V → Obs → Option α) → Option α
  | [], K => K [] obs
  | v :: r, K => ownV C obs v fun x obs => ownIn obs r fun xs obs => K (x :: xs) obs
def store (obs : Obs) (t : Nat) (p v : V) (K : Obs → Option α) : Option α :=
  need (C.ty t) fun ti =>
  match p with
  | .ptr id off => match obs[id]? with
    | some (.box bt cs false) =>
      match v with
      | .agg vs => must (Nat.beq vs.length ti.size && ti.agg && Nat.ble (off + vs.length) cs.length && flatB C bt vs) (K (setOb obs id (.box bt (splice cs off vs) false)))
      | .prj vs o => asSl vs[o]? fun n c => must (Nat.beq 1 ti.size && Nat.ble (off + 1) cs.length) (K (setOb obs id (.box bt (splice cs off [.sl n c]) false)))
      | v => must (v.solid && Nat.beq 1 ti.size && Nat.ble (off + 1) cs.length && flatB C bt [v]) (K (setOb obs id (.box bt (splice cs off [v]) false)))
    | some (.row _ _ _ false) => intoRows obs v.cells fun vs obs =>
      match obs[id]? with
      | some (.row bt n cs false) => must (Nat.beq vs.length ti.size && Nat.ble (off + vs.length) cs.length) (K (setOb obs id (.row bt n (splice cs off vs) false)))
      | _ => none
    | some (.nrow [] bt n cs) => ownIn C (setOb obs id .gone) v.cells fun vs obs =>
      must (Nat.beq vs.length ti.size && Nat.ble (off + vs.length) cs.length) (K (setOb obs id (.nrow [] bt n (splice cs off vs))))
    | _ => none
  | _ => none
def fieldAt (t f : Nat) (K : Nat → TI → Option α) : Option α :=
  need (C.ty t) fun ti => match ti.ty with
    | .struct fs => need fs[f]? fun x => need (C.ty x.2) fun ti => must (!Nat.beq ti.size 0) (K x.1 ti)
    | _ => none
def elemOf (t : Nat) (K : Nat → TI → Option α) : Option α :=
  need (C.ty t) fun ti => match ti.ty with
    | .slice e => need (C.ty e) fun te => must (!Nat.beq te.size 0) (K e te)
    | _ => none
def loadOut (nm : NM) (obs : Obs) (t : Nat) (p : V) (K : V → Obs → Option α) : Option α :=
  match p with
  | .ptr id off => match obs[id]? with
    | some (.nrow h bt n cs) => must nm.out <| need (C.ty t) fun ti => must (!ti.agg) <| elemOf C t fun e te => must (!holeAt off h) <| asOwn (hasSl te.leaves) e te.size cs[off]? fun m ics =>
        match hasSl te.leaves with
        | true => K (.ref obs.length) (setOb obs id (.nrow ((off, obs.length) :: h) bt n cs) ++ [.nrow [] e m ics])
        | false => K (.ref obs.length) (setOb obs id (.nrow ((off, obs.length) :: h) bt n cs) ++ [.row e m ics false])
    | _ => load C obs t p fun v => K v obs
  | _ => load C obs t p fun v => K v obs
def foldHs (i : Nat) : List (Nat × Nat) → Obs → (Obs → Option α) → Option α
  | [], obs, K => K obs
  | _ :: hs, obs, K => match obs[i]? with
    | some (.nrow ((off, k) :: h) t n cs) => match obs[k]? with
      | some (.row e m c false) => need (C.ty e) fun te => must (!holeAt off h) <| must (c.all flatV) (foldHs i hs (setOb (setOb obs k .gone) i (.nrow h t n (cs.set off (.own false e te.size m c)))) K)
      | some (.nrow [] e m c) => need (C.ty e) fun te => must (!holeAt off h) <| foldHs i hs (setOb (setOb obs k .gone) i (.nrow h t n (cs.set off (.own true e te.size m c)))) K
      | _ => none
    | _ => none
def foldGo : Obs → Nat → Obs → (Obs → Option α) → Option α
  | [], _, obs, K => K obs
  | .nrow h _ _ _ :: r, i, obs, K => foldHs C i h obs fun obs => foldGo r (i + 1) obs K
  | _ :: r, i, obs, K => foldGo r (i + 1) obs K
def inB (i : Int) (n : Nat) : Bool := decide (0 ≤ i) && decide (i < n)
def indexAddr (obs : Obs) (t : Nat) (x ix : V) (K : V → Option α) : Option α :=
  match ix with
  | .int _ i => need (C.ty t) fun ti => match ti.ty with
    | .arr n e => need (C.ty e) fun te => must (!Nat.beq te.size 0) <| match x with
      | .ptr id off => must (inB i n) (K (.ptr id (off + i.toNat * te.size)))
      | .pin cs off => must (inB i n) (K (.pin cs (off + i.toNat * te.size)))
      | _ => none
    | .slice e => need (C.ty e) fun te => must (!Nat.beq te.size 0) <| match x with
      | .ref id => slLen obs (.ref id) fun n => must (inB i n) (K (.ptr id (i.toNat * te.size)))
      | v => slOf obs v fun n cs => must (inB i n) (K (.pin cs (i.toNat * te.size)))
    | _ => none
  | _ => none
def indexArr (t : Nat) (cs : List V) (i : Int) (K : V → Option α) : Option α :=
  need (C.ty t) fun ti => match ti.ty with
    | .arr n e => need (C.ty e) fun te => must (inB i n) <|
      bif te.agg then must (Nat.ble (i.toNat * te.size + te.size) cs.length) (K (.agg ((cs.drop (i.toNat * te.size)).take te.size)))
      else match te.leaves with
        | [.int k] => asInt k cs[i.toNat * te.size]? fun z => K (.int k z)
        | _ => get cs[i.toNat * te.size]? K
    | _ => none
def bnd (v : Option V) (d : Nat) (m : Nat) (K : Nat → Option α) : Option α :=
  match v with
  | none => K d
  | some (.int _ i) => must (decide (0 ≤ i) && decide (i ≤ m)) (K i.toNat)
  | _ => none
def slice (obs : Obs) (t : Nat) (x : V) (lo hi : Option V) (K : V → Obs → Option α) : Option α :=
  need (C.ty t) fun ti => match ti.ty with
    | .str => match x with
      | .str s => bnd hi s.size s.size fun h => bnd lo 0 h fun l => K (.str (s.extract l h)) obs
      | _ => none
    | .slice e => need (C.ty e) fun te => must (!Nat.beq te.size 0) <| match x with
      | .ref id => slOf (shutAt obs id) (.ref id) fun n cs => bnd hi n n fun h => bnd lo 0 h fun l => K (.sl (h - l) ((cs.drop (l * te.size)).take ((h - l) * te.size))) (shutAt obs id)
      | v => slOf obs v fun n cs => bnd hi n n fun h => bnd lo 0 h fun l => K (.sl (h - l) ((cs.drop (l * te.size)).take ((h - l) * te.size))) obs
    | _ => none
def bits (k : IntKind) (f : BitVec k.bits → BitVec k.bits → BitVec k.bits) (a b : Int) : Int := k.wrap (f (BitVec.ofInt k.bits a) (BitVec.ofInt k.bits b)).toNat
def intOp (op : BinOp) (k : IntKind) (a b : Int) (K : V → Option α) : Option α :=
  match op with
  | .add => K (.int k (k.wrap (a + b)))
  | .sub => K (.int k (k.wrap (a - b)))
  | .mul => K (.int k (k.wrap (a * b)))
  | .quo => must (!decide (b = 0)) (K (.int k (k.wrap (a.tdiv b))))
  | .rem => must (!decide (b = 0)) (K (.int k (a.tmod b)))
  | .and => K (.int k (bits k (· &&& ·) a b))
  | .or => K (.int k (bits k (· ||| ·) a b))
  | .xor => K (.int k (bits k (· ^^^ ·) a b))
  | .andNot => K (.int k (bits k (fun x y => x &&& ~~~y) a b))
  | .shl => must (decide (0 ≤ b)) (K (.int k (k.wrap (a * 2 ^ min b.toNat k.bits))))
  | .shr => must (decide (0 ≤ b)) (K (.int k (a.fdiv (2 ^ min b.toNat k.bits))))
  | .eql => K (.bool (a == b))
  | .neq => K (.bool (a != b))
  | .lss => K (.bool (decide (a < b)))
  | .leq => K (.bool (decide (a ≤ b)))
  | .gtr => K (.bool (decide (a > b)))
  | .geq => K (.bool (decide (a ≥ b)))
def strEq (a b : ByteArray) : Bool := a.toList == b.toList
open Classical in
noncomputable def both (x y : Option α) : Option α := if x = y then x else none
theorem both_self (x : Option α) : both x x = x := by simp [both]
theorem both_some {x y : Option α} {r : α} (h : both x y = some r) : x = some r ∧ y = some r := by
  unfold both at h
  split at h
  · rename_i e; exact ⟨h, by rw [← e]; exact h⟩
  · cases h
noncomputable def slNil (obs : Obs) (v : V) (K : Bool → Option α) : Option α :=
  match v with
  | .nilsl => K true
  | v => slOf obs v fun n _ => ask (Nat.beq n 0) fun t => match t with
    | true => both (K true) (K false)
    | false => K false
def isNilV : V → Bool
  | .nilsl => true
  | _ => false
noncomputable def nilOp (obs : Obs) (op : BinOp) (t : Nat) (x : V) (K : V → Option α) : Option α :=
  need (C.ty t) fun ti => match ti.ty, op with
    | .slice _, .eql => slNil obs x fun b => K (.bool b)
    | .slice _, .neq => slNil obs x fun b => K (.bool !b)
    | _, _ => none
def isShift : BinOp → Bool
  | .shl | .shr => true
  | _ => false
def binOp (op : BinOp) (t : Nat) (x y : V) (K : V → Option α) : Option α :=
  match x, y with
  | .int k a, .int k' b => bif isShift op || kbeq k k' then intOp op k a b K else none
  | .str a, .str b => match op with
    | .eql => K (.bool (strEq a b))
    | .neq => K (.bool (!strEq a b))
    | .add => must (decide (a.size + b.size ≤ 9223372036854775807)) (K (.str (a ++ b)))
    | _ => none
  | .bool a, .bool b => need (C.ty t) fun ti => match ti.ty, op with
    | .bool, .eql => K (.bool (a == b))
    | .bool, .neq => K (.bool (!(a == b)))
    | _, _ => none
  | _, _ => none
def unOp (op : UnOp) (x : V) (K : V → Option α) : Option α :=
  match op, x with
  | .not, .bool b => K (.bool !b)
  | .neg, .int k n => K (.int k (k.wrap (0 - n)))
  | .xor, .int k n => K (.int k (bits k (· ^^^ ·) (if k.signed then -1 else k.max) n))
  | _, _ => none
def bytesV (s : List UInt8) : List V := s.map fun b => .int .u8 b.toNat
def isU8 : V → Bool
  | .int .u8 _ => true
  | _ => false
def u8Of : V → UInt8
  | .int _ n => UInt8.ofNat n.toNat
  | _ => 0
def packB (cs : List V) : ByteArray := ⟨(cs.map u8Of).toArray⟩
def roomB : Nat := 140737488355328
def convert (obs : Obs) (src dst : Nat) (x : V) (K : V → Obs → Option α) : Option α :=
  need (C.ty src) fun ts => need (C.ty dst) fun td =>
  match td.ty, x with
  | .int k, .int _ n => K (.int k (k.wrap n)) obs
  | .slice e, .str s => need (C.ty e) fun te => match te.ty, ts.ty with
    | .int .u8, .str => must (Nat.ble s.size roomB) (K (.sl s.size (bytesV s.data.toList)) obs)
    | _, _ => none
  | .str, .str s => K (.str s) obs
  | .str, v => match ts.ty with
    | .slice e => need (C.ty e) fun te => match te.ty with
      | .int .u8 => slOf obs v fun n cs => must (Nat.beq cs.length n && cs.all isU8) (K (.str (packB cs)) obs)
      | _ => none
    | _ => none
  | _, _ => none
def fillAt (cs : List V) : List (Nat × Nat × List V) → Option (List V)
  | [] => some cs
  | (off, size, vs) :: r => bif Nat.beq vs.length size && Nat.ble (off + vs.length) cs.length then fillAt (splice cs off vs) r else none
def places (fs : List (Nat × Nat)) : List (Nat × V) → Option (List (Nat × Nat × List V))
  | [] => some []
  | (f, v) :: r => match fs[f]? with
    | some (off, t) => match C.ty t with
      | some ti => match places fs r with
        | some l => some ((off, ti.size, v.cells) :: l)
        | none => none
      | none => none
    | none => none
def placesE (size : Nat) : List (Nat × V) → List (Nat × Nat × List V)
  | [] => []
  | (i, v) :: r => (i * size, size, v.cells) :: placesE size r
def allSolid : List (Nat × V) → Bool
  | [] => true
  | (_, .agg _) :: r => allSolid r
  | (_, v) :: r => v.solid && allSolid r
def unprj (v : V) (K : V → Option α) : Option α :=
  match v with
  | .prj cs off => asSl cs[off]? fun n c => K (.sl n c)
  | v => K v
def unprjs : List (Nat × V) → (List (Nat × V) → Option α) → Option α
  | [], K => K []
  | (i, v) :: r, K => unprj v fun x => unprjs r fun xs => K ((i, x) :: xs)
def build (t : Nat) (parts : List (Nat × V)) (K : V → Option α) : Option α :=
  unprjs parts fun parts => must (allSolid parts) <|
  need (C.ty t) fun ti => match ti.ty with
    | .struct fs => need (places C fs parts) fun ps => need (fillAt (ofConsts ti.zero) ps) fun cs => K (.agg cs)
    | .arr _ e => need (C.ty e) fun te => need (fillAt (ofConsts ti.zero) (placesE te.size parts)) fun cs => K (.agg cs)
    | _ => none
def intoParts (obs : Obs) : List (Nat × V) → (List (Nat × V) → Obs → Option α) → Option α
  | [], K => K [] obs
  | (i, v) :: r, K => intoRows obs v.cells fun vs obs => intoParts obs r fun l obs => K ((i, .agg vs) :: l) obs
def nz : V → V
  | .nilsl => .sl 0 []
  | v => v
def nzL : List V → List V
  | [] => []
  | v :: r => nz v :: nzL r
def nzs (ls : List Leaf) (cs : List V) : List V :=
  match ls with
  | .sl :: _ => nzL cs
  | _ => cs
def reps : Nat → List V → List V
  | 0, _ => []
  | n + 1, z => z ++ reps n z
def buildSliceN (obs : Obs) (t len : Nat) (parts : List (Nat × V)) (K : V → Obs → Option α) : Option α :=
  elemOf C t fun e te => match parts with
    | [] => must (Nat.beq len 0) (K (.ref obs.length) (obs ++ [.nrow [] e 0 []]))
    | [(i, v)] => must (Nat.beq i 0 && Nat.beq len 1) <| ownIn C obs v.cells fun vs obs =>
        must (Nat.beq vs.length te.size && Nat.ble te.size 4096) (K (.ref obs.length) (obs ++ [.nrow [] e 1 vs]))
    | _ => none
def buildSlice (obs : Obs) (t len : Nat) (parts : List (Nat × V)) (K : V → Obs → Option α) : Option α :=
  elemOf C t fun e te => intoParts obs parts fun ps obs =>
    must (Nat.ble (len * te.size) 4096) <|
    need (fillAt (reps len (ofConsts te.zero)) (placesE te.size ps)) fun cs => K (.ref obs.length) (obs ++ [.row e len (nzs te.leaves cs) false])
def makeSlice (obs : Obs) (t : Nat) (l c : V) (K : V → Obs → Option α) : Option α :=
  elemOf C t fun e te => match l, c with
    | .int .i64 n, .int .i64 m => must (decide (n = m) && decide (0 ≤ n) && decide (n ≤ roomB) && decide (n * te.bytes ≤ roomB)) (K (.ref obs.length) (obs ++ [.row e n.toNat (reps n.toNat (nzs te.leaves (ofConsts te.zero))) false]))
    | _, _ => none
def append (obs : Obs) (t : Nat) (x y : V) (K : V → Obs → Option α) : Option α :=
  elemOf C t fun e te => slOf obs y fun m ys =>
    must (decide (ys.length = m * te.size)) <|
    match x with
    | .nilsl => must (Nat.ble m roomB && Nat.ble (m * te.bytes) roomB) (K (.ref obs.length) (obs ++ [.row e m ys false]))
    | .ref id => match obs[id]? with
      | some (.row e' n xs false) => must (Nat.beq e e' && Nat.ble (n + m) roomB && Nat.ble ((n + m) * te.bytes) roomB) (K (.ref obs.length) (setOb obs id .gone ++ [.row e (n + m) (xs ++ ys) false]))
      | _ => none
    | _ => none
def makeSliceN (obs : Obs) (t : Nat) (l c : V) (K : V → Obs → Option α) : Option α :=
  elemOf C t fun e te => match l, c with
    | .int .i64 n, .int .i64 m => must (decide (n = m) && decide (0 ≤ n) && decide (n ≤ roomB) && decide (n * te.bytes ≤ roomB)) (K (.ref obs.length) (obs ++ [.nrow [] e n.toNat (reps n.toNat (ofConsts te.zero))]))
    | _, _ => none
def appendZ (obs : Obs) (t t' : Nat) (x y : V) (K : V → Obs → Option α) : Option α :=
  elemOf C t fun e te => need (C.ty t') fun tn => match tn.ty, y with
    | .int _, .int _ m => must (decide (0 ≤ m) && decide (m ≤ roomB)) <| match x with
      | .ref id => match obs[id]? with
        | some (.row e' n xs false) => must (Nat.beq e e' && decide (n + m.toNat ≤ roomB) && decide ((n + m.toNat) * te.bytes ≤ roomB)) (K (.ref obs.length) (setOb obs id .gone ++ [.row e (n + m.toNat) (xs ++ reps m.toNat (nzs te.leaves (ofConsts te.zero))) false]))
        | _ => none
      | _ => none
    | _, _ => none
def appendN (obs : Obs) (t : Nat) (x y : V) (K : V → Obs → Option α) : Option α :=
  elemOf C t fun e te => match y with
    | .ref j => match obs[j]? with
      | some (.nrow [] e2 m ys) => must (Nat.beq e e2 && decide (ys.length = m * te.size)) <| match x with
        | .nilsl => must (Nat.ble m roomB && Nat.ble (m * te.bytes) roomB) (K (.ref obs.length) (setOb obs j .gone ++ [.nrow [] e m ys]))
        | .ref i => match (setOb obs j .gone)[i]? with
          | some (.nrow [] e' n xs) => must (Nat.beq e e' && Nat.ble (n + m) roomB && Nat.ble ((n + m) * te.bytes) roomB) (K (.ref obs.length) (setOb (setOb obs j .gone) i .gone ++ [.nrow [] e (n + m) (xs ++ ys)]))
          | _ => none
        | _ => none
      | _ => none
    | _ => none
def isNrow (obs : Obs) (v : V) : Bool :=
  match v with
  | .ref j => match obs[j]? with
    | some (.nrow ..) => true
    | _ => false
  | _ => false
def nrowsB (nm : NM) (t : Nat) : Bool := match C.ty t with
  | some ti => match ti.ty with
    | .slice e => nm.rows e
    | _ => false
  | none => false
def lenOf (obs : Obs) (t : Nat) (x : V) (K : V → Option α) : Option α :=
  need (C.ty t) fun ti => match ti.ty with
    | .str => match x with
      | .str s => K (.int .i64 s.size)
      | _ => none
    | .slice _ => slLen obs x fun n => K (.int .i64 n)
    | .arr n _ => K (.int .i64 n)
    | _ => none
def minI : List V → (V → Option α) → Option α
  | [.int .i64 a, .int .i64 b], K => K (.int .i64 (if b < a then b else a))
  | _, _ => none
def maxI : List V → (V → Option α) → Option α
  | [.int .i64 a, .int .i64 b], K => K (.int .i64 (if b > a then b else a))
  | _, _ => none
def newBox (obs : Obs) (t : Nat) (cs : List V) (K : V → Obs → Option α) : Option α := must (flatB C t cs) (K (.ptr obs.length 0) (obs ++ [.box t cs false]))
def asTup (v : Option V) (K : List V → Option α) : Option α :=
  match v with
  | some (.tup cs) => K cs
  | _ => none
def resOne (ti : TI) (v : V) (K : List V → Option α) : Option α :=
  bif ti.agg then asAgg (some v) fun cs => must (Nat.beq cs.length ti.leaves.length) (K cs) else K [v]
def resAll : List Nat → List V → (List V → Option α) → Option α
  | [], [], K => K []
  | t :: ts, v :: vs, K => need (C.ty t) fun ti => resOne ti v fun cs => resAll ts vs fun cs' => K (cs ++ cs')
  | _, _, _ => none
def resCells (ts : List Nat) (v : V) (K : List V → Option α) : Option α :=
  match ts with
  | [t] => resAll C [t] [v] K
  | ts => asTup (some v) fun vs => resAll C ts vs K
def leavesAll : List Nat → (List Leaf → Option α) → Option α
  | [], K => K []
  | t :: ts, K => need (C.ty t) fun ti => leavesAll ts fun ls => K (ti.leaves ++ ls)
def groupAll : List Nat → List V → (List V → Option α) → Option α
  | [], _, K => K []
  | t :: ts, ys, K => need (C.ty t) fun ti =>
    bif ti.agg then groupAll ts (ys.drop ti.leaves.length) fun vs => K (.agg (ys.take ti.leaves.length) :: vs)
    else match ys with
      | y :: r => groupAll ts r fun vs => K (y :: vs)
      | [] => none
def groupRes (ts : List Nat) (ys : List V) (K : V → Option α) : Option α :=
  match ts with
  | [t] => groupAll C [t] ys fun vs => match vs with
    | [v] => K v
    | _ => none
  | ts => groupAll C ts ys fun vs => K (.tup vs)
def bigRes : List Nat → Bool
  | [t] => match C.ty t with
    | some ti => ti.agg && Nat.ble 49 ti.leaves.length
    | none => false
  | _ => false
def nestE (e : Nat) : Option Nat := bif Nat.ble 1000000 e then some (e - 1000000) else none
def takeLeaves : List Leaf → List (Option Nat) → List V → Nat → Obs → (List V → Obs → Option α) → Option α
  | [], _, _, _, obs, K => K [] obs
  | .int k :: r, own, cs, i, obs, K => asInt k cs[i]? fun n => takeLeaves r own cs (i + 1) obs fun xs obs => K (.int k n :: xs) obs
  | .bool :: r, own, cs, i, obs, K => asBool cs[i]? fun b => takeLeaves r own cs (i + 1) obs fun xs obs => K (.bool b :: xs) obs
  | .str :: r, own, cs, i, obs, K => asStr cs[i]? fun s => takeLeaves r own cs (i + 1) obs fun xs obs => K (.str s :: xs) obs
  | .sl :: r, some e :: own, cs, i, obs, K => match nestE e with
    | none => asOsl cs[i]? fun n c => takeLeaves r own cs (i + 1) (obs ++ [.row e n c false]) fun xs obs' => K (.ref obs.length :: xs) obs'
    | some e => asOsl cs[i]? fun n c => takeLeaves r own cs (i + 1) (obs ++ [.nrow [] e n c]) fun xs obs' => K (.ref obs.length :: xs) obs'
  | .sl :: r, own, cs, i, obs, K => asSl cs[i]? fun n c => takeLeaves r own.tail cs (i + 1) obs fun xs obs => K (.sl n c :: xs) obs
  | .oth :: r, own, cs, i, obs, K => get cs[i]? fun v => takeLeaves r own cs (i + 1) obs fun xs obs => K (v :: xs) obs
def takeRes (ts : List Nat) (own : List (Option Nat)) (v : V) (obs : Obs) (K : V → Obs → Option α) : Option α :=
  bif bigRes C ts then asAgg (some v) fun cs => K (.agg cs) obs
  else asTup (some v) fun cs => leavesAll C ts fun ls => takeLeaves ls own cs 0 obs fun ys obs => groupRes C ts ys fun v => K v obs
def refIn (gv : List Nat) : V → Bool
  | .ref id => memN id gv
  | _ => false
def giveLeaves (gv : List Nat) : List Leaf → List (Option Nat) → List V → Obs → (List V → Option α) → Option α
  | [], _, [], _, K => K []
  | .sl :: r, some e :: own, v :: vs, obs, K => match nestE e with
   | some e => need (C.ty e) fun te => must (!Nat.beq te.size 0) <| match v with
    | .nilsl => giveLeaves gv r own vs obs fun xs => K (.osl 0 [] :: xs)
    | .ref id => match obs[id]? with
      | some (.nrow [] e' n c) => bif Nat.beq e e' && !memN id gv then giveLeaves (id :: gv) r own vs obs fun xs => K (.osl n c :: xs) else none
      | _ => none
    | _ => none
   | none => need (C.ty e) fun te => must (!Nat.beq te.size 0) <| match v with
    | .nilsl => giveLeaves gv r own vs obs fun xs => K (.osl 0 [] :: xs)
    | .ref id => match obs[id]? with
      | some (.row e' n c false) => bif Nat.beq e e' && !memN id gv then must (hasSl te.leaves || c.all flatV) (giveLeaves (id :: gv) r own vs obs fun xs => K (.osl n c :: xs)) else none
      | _ => none
    | _ => none
  | .sl :: r, own, v :: vs, obs, K => bif refIn gv v then none else intoRow obs v fun x obs => giveLeaves gv r own.tail vs obs fun xs => K (x :: xs)
  | _ :: r, own, v :: vs, obs, K => bif flatV v then giveLeaves gv r own vs obs fun xs => K (v :: xs) else none
  | _, _, _, _, _ => none
def giveRes (ts : List Nat) (own : List (Option Nat)) (v : V) (obs : Obs) (K : V → Option α) : Option α :=
  bif bigRes C ts then asAgg (some v) fun cs => must (cs.all flatV) (K (.agg cs))
  else resCells C ts v fun cs => leavesAll C ts fun ls => giveLeaves C [] ls own cs obs fun xs => K (.tup xs)
def shares (C : Cfg) : List Leaf → List (Option Nat) → Bool
  | [], _ => false
  | .sl :: r, some e :: own => (match nestE e with | some _ => false | none => match C.ty e with | some te => hasSl te.leaves | none => true) || shares C r own
  | .sl :: _, _ => true
  | _ :: r, own => shares C r own
def lvs (C : Cfg) : List Nat → Option (List Leaf)
  | [] => some []
  | t :: ts => match C.ty t with
    | some ti => match lvs C ts with
      | some ls => some (ti.leaves ++ ls)
      | none => none
    | none => none
def sharesAny (C : Cfg) (ts : List Nat) (own : List (Option Nat)) : Bool := !bigRes C ts && match lvs C ts with
  | some ls => shares C ls own
  | none => true
def idsL.idsL0 : List V → List Nat
  | [] => []
  | .ref i :: r => i :: idsL.idsL0 r
  | .ptr i _ :: r => i :: idsL.idsL0 r
  | _ :: r => idsL.idsL0 r
def idsL : List V → List Nat
  | [] => []
  | .ref i :: r => i :: idsL r
  | .ptr i _ :: r => i :: idsL r
  | .fn _ caps :: r => idsL.idsL0 caps ++ idsL r
  | _ :: r => idsL r
def ids1 : V → List Nat
  | .agg cs => idsL cs
  | .tup cs => idsL cs
  | v => idsL [v]
def obIds (C : Cfg) (o : Option Ob) : List Nat :=
  match o with
  | some (.box t cs _) => match C.ty t with
    | some ti => bif hasSl ti.leaves then idsL cs else []
    | none => []
  | _ => []
def reach (C : Cfg) (obs : Obs) : Nat → List Nat → List Nat → List Nat
  | 0, acc, _ => acc
  | _, acc, [] => acc
  | n + 1, acc, i :: todo => bif memN i acc then reach C obs n acc todo else reach C obs n (acc ++ [i]) (obIds C obs[i]? ++ todo)
def idx (x : Nat) : List Nat → Nat → Option Nat
  | [], _ => none
  | y :: r, i => bif Nat.beq x y then some i else idx x r (i + 1)
def renV.renL (m : List Nat) : List V → List V
  | [] => []
  | .ref i :: r => (match idx i m 0 with | some j => .ref j | none => .u) :: renV.renL m r
  | .ptr i off :: r => (match idx i m 0 with | some j => .ptr j off | none => .u) :: renV.renL m r
  | .fn _ _ :: r => .u :: renV.renL m r
  | .agg _ :: r => .u :: renV.renL m r
  | .tup _ :: r => .u :: renV.renL m r
  | .osl _ _ :: r => .u :: renV.renL m r
  | v :: r => v :: renV.renL m r
def renV (m : List Nat) : V → V
  | .ref i => match idx i m 0 with | some j => .ref j | none => .u
  | .ptr i off => match idx i m 0 with | some j => .ptr j off | none => .u
  | .fn f caps => .fn f (renV.renL m caps)
  | .agg cs => .agg (renV.renL [] cs)
  | .tup _ => .u
  | .osl _ _ => .u
  | v => v
def renCells (m : List Nat) : List V → List V
  | [] => []
  | v :: r => renV m v :: renCells m r
def renOb (C : Cfg) (m : List Nat) : Ob → Ob
  | .box t cs sh => match C.ty t with
    | some ti => bif hasSl ti.leaves then .box t (renCells m cs) sh else .box t cs sh
    | none => .gone
  | .nrow (_ :: _) _ _ _ => .gone
  | o => o
def pick (obs : Obs) : List Nat → Obs
  | [] => []
  | i :: r => (match obs[i]? with | some o => o | none => .gone) :: pick obs r
def renObs (C : Cfg) (m : List Nat) : Obs → Obs
  | [] => []
  | o :: r => renOb C m o :: renObs C m r
def nodupN : List Nat → Bool
  | [] => true
  | x :: r => !memN x r && nodupN r
def allLt (n : Nat) : List Nat → Bool
  | [] => true
  | x :: r => Nat.blt x n && allLt n r
def envAt (e : Env) : List Nat → Env
  | [] => []
  | t :: r => (t, look e t) :: envAt e r
def envIds : Env → List Nat
  | [] => []
  | (_, .agg _) :: r => envIds r
  | (_, v) :: r => ids1 v ++ envIds r
def renEnv (m : List Nat) : Env → Env
  | [] => []
  | (t, v) :: r => (t, renV m v) :: renEnv m r
def upto : Nat → List Nat
  | 0 => []
  | n + 1 => upto n ++ [n]
def slPlaces : List Leaf → List Nat → Nat → List (Nat × Nat)
  | .sl :: ls, e :: es, j => (j, e) :: slPlaces ls es (j + 1)
  | .sl :: _, [], _ => []
  | _ :: ls, es, j => slPlaces ls es (j + 1)
  | [], _, _ => []
def slB (t : Nat) : Bool := match C.ty t with
  | some ti => hasSl ti.leaves
  | none => false
def unnilRow (e : Nat) : Nat × Ob := match nestE e with
  | some e' => (e', .nrow [] e' 0 [])
  | none => (e, .row e 0 [] false)
def unnilAt (i : Nat) (obs : Obs) (p : Nat × Nat) : Obs :=
  match obs[i]? with
  | some (.box t cs false) => match cs[p.1]?, C.ty (unnilRow p.2).1 with
    | some .nilsl, some te => bif Nat.blt 0 te.size && slB C t then setOb (obs ++ [(unnilRow p.2).2]) i (.box t (splice cs p.1 [.ref obs.length]) false) else obs
    | _, _ => obs
  | _ => obs
def unnilsAt (i : Nat) : List (Nat × Nat) → Obs → Obs
  | [], obs => obs
  | p :: r, obs => unnilsAt i r (unnilAt C i obs p)
def unnilBox (i : Nat) (obs : Obs) : Obs :=
  match obs[i]? with
  | some (.box t _ false) => match C.ty t with
    | some ti => unnilsAt C i (slPlaces ti.leaves (C.els t) 0) obs
    | none => obs
  | _ => obs
def unnils : List Nat → Obs → Obs
  | [], obs => obs
  | i :: r, obs => unnils r (unnilBox C i obs)
def normal0 (C : Cfg) (n0 : Nat) (live : List Nat) (e : Env) (obs : Obs) (K : Env → Obs → Option α) : Option α :=
  let e' := envAt e live
  let m := reach C obs 200 (upto n0) (obs.take n0 |>.flatMap (fun o => obIds C (some o))) 
  let m := reach C obs 200 m (envIds e')
  must (nodupN m && allLt obs.length m) (K (renEnv m e') (renObs C m (pick obs m)))
def normal (C : Cfg) (n0 : Nat) (live : List Nat) (e : Env) (obs : Obs) (K : Env → Obs → Option α) : Option α :=
  normal0 C n0 live e (unnils C (upto obs.length) obs) K
inductive Exit' where
  | norm | exit (id : Nat) | ret
def evps (e : Env) : List (Nat × Operand) → List (Nat × V)
  | [] => []
  | (i, x) :: r => (i, ev e x) :: evps e r
def evo (e : Env) : Option Operand → Option V
  | none => none
  | some x => some (ev e x)
def shutAll (obs : Obs) : List Nat → Obs
  | [] => obs
  | i :: r => shutAll (shutAt obs i) r
abbrev CallT := (α : Type) → Nat → List V → Obs → (V → Obs → Option α) → Option α
def lendArg (ti : TI) (obs : Obs) (v : V) (K : V → Option α) : Option α :=
  bif ti.agg then
    bif hasSl ti.leaves then asAgg (some v) fun cs => lendTos obs cs fun cs => K (.agg cs)
    else asAgg (some v) fun cs => must (cs.all V.idFree) (K (.agg cs))
  else lendTo obs v K
def lendArgs (obs : Obs) : List Nat → List V → (List V → Option α) → Option α
  | [], [], K => K []
  | t :: ts, v :: vs, K => need (C.ty t) fun ti => lendArg ti obs v fun x => lendArgs obs ts vs fun xs => K (x :: xs)
  | _, _, _ => none
def argIds : List V → List Nat
  | [] => []
  | .agg cs :: r => idsL cs ++ argIds r
  | v :: r => idsL [v] ++ argIds r
def lendIdsP (obs : Obs) : List V → List Nat
  | [] => []
  | .ptr i _ :: r => i :: (match obs[i]? with | some (.box _ cs _) => idsL cs | _ => []) ++ lendIdsP obs r
  | v :: r => idsL [v] ++ lendIdsP obs r
def lendIds (obs : Obs) : List V → List Nat
  | [] => []
  | .fn _ caps :: r => lendIdsP obs caps ++ lendIds obs r
  | .agg cs :: r => idsL cs ++ lendIds obs r
  | .ptr i _ :: r => i :: (match obs[i]? with | some (.box _ cs _) => idsL cs | _ => []) ++ lendIds obs r
  | v :: r => idsL [v] ++ lendIds obs r
def callM (call : CallT) (f : Nat) (args : List V) (obs : Obs) (K : V → Obs → Option α) : Option α :=
  need (C.code f) fun fn =>
  lendArgs C obs fn.params.toList args fun xs =>
  need (call V f xs [] fun v obs1 => giveRes C fn.resultTypes.toList (C.own f) v obs1 some) fun r =>
  takeRes C fn.resultTypes.toList (C.own f) r (bif sharesAny C fn.resultTypes.toList (C.own f) then shutAll obs (lendIds obs args) else obs) K
def renW (X : List Nat) : V → V
  | .agg cs => .agg (renCells X cs)
  | v => renV X v
def ptrIds : List V → List Nat
  | [] => []
  | .ptr i _ :: r => i :: ptrIds r
  | _ :: r => ptrIds r
def isPtrV : V → Bool
  | .ptr _ _ => true
  | _ => false
def noPtrs : List V → List V
  | [] => []
  | v :: r => bif isPtrV v then noPtrs r else v :: noPtrs r
def apartN : List Nat → List Nat → Bool
  | [], _ => true
  | i :: r, X => !memN i X && apartN r X
def openOb : Ob → Bool
  | .nrow .. => true
  | .box _ _ false => true
  | .row _ _ _ false => true
  | _ => false
def allOpenX (obs : Obs) : List Nat → Bool
  | [] => true
  | i :: r => (match obs[i]? with | some o => openOb o | none => false) && allOpenX obs r
def lendX1 (mode : Bool) (X : List Nat) (obs : Obs) (t : Option Nat) (v : V) (K : V → Option α) : Option α :=
  bif isPtrV v then K (renV X v) else match t with
    | none => must v.idFree (K v)
    | some t => bif mode then K (renW X v) else need (C.ty t) fun ti => lendArg ti obs v K
def lendX (mode : Bool) (X : List Nat) (obs : Obs) : List Nat → List V → (List V → Option α) → Option α
  | ts, [], K => must ts.isEmpty (K [])
  | ts, v :: vs, K => lendX1 C mode X obs ts.head? v fun x => lendX mode X obs ts.tail vs fun xs => K (x :: xs)
def shapeV : V → V
  | .ref _ => .nilsl
  | .nilsl => .nilsl
  | _ => .u
def shapes : List V → List V
  | [] => []
  | v :: r => shapeV v :: shapes r
def shapeO : Ob → Ob
  | .box t cs _ => .box t (shapes cs) false
  | .row t _ _ _ => .row t 0 [] false
  | .nrow _ t _ _ => .nrow [] t 0 []
  | .gone => .gone
def shape : Obs → Obs
  | [] => []
  | o :: r => shapeO o :: shape r
def padOwn : List Leaf → List (Option Nat) → List (Option Nat)
  | [], _ => []
  | .sl :: r, o :: own => o :: padOwn r own
  | .sl :: r, [] => none :: padOwn r []
  | _ :: r, own => padOwn r own
def ownCells : List Leaf → List Nat → List V → List (Option Nat)
  | .sl :: r, es, v :: vs => (match es.head?, v with | some e, .nilsl => some e | _, _ => none) :: ownCells r es.tail vs
  | .sl :: r, es, [] => none :: ownCells r es.tail []
  | _ :: r, es, vs => ownCells r es vs.tail
  | [], _, _ => []
def bLeaves (D : List Nat) : Nat → Obs → List Leaf
  | _, [] => []
  | j, .box t _ _ :: h => (match C.ty t with | some ti => ti.leaves | none => []) ++ bLeaves D (j + 1) h
  | j, .row _ _ _ _ :: h => bif memN j D then .sl :: bLeaves D (j + 1) h else bLeaves D (j + 1) h
  | j, .nrow _ _ _ _ :: h => bif memN j D then .sl :: bLeaves D (j + 1) h else bLeaves D (j + 1) h
  | j, .gone :: h => bLeaves D (j + 1) h
def bOwn (D : List Nat) : Nat → Obs → List (Option Nat)
  | _, [] => []
  | j, .box t cs _ :: h => (match C.ty t with | some ti => ownCells ti.leaves (C.els t) cs | none => []) ++ bOwn D (j + 1) h
  | j, .row t _ _ _ :: h => bif memN j D then some t :: bOwn D (j + 1) h else bOwn D (j + 1) h
  | j, .nrow _ t _ _ :: h => bif memN j D then some (t + 1000000) :: bOwn D (j + 1) h else bOwn D (j + 1) h
  | j, .gone :: h => bOwn D (j + 1) h
def bIds : Nat → Obs → List Nat
  | _, [] => []
  | j, .box _ _ _ :: h => j :: bIds (j + 1) h
  | j, _ :: h => bIds (j + 1) h
def bCells (D : List Nat) (obs1 : Obs) : Nat → Obs → (List V → Option α) → Option α
  | _, [], K => K []
  | j, .box t _ _ :: h, K => match obs1[j]? with
    | some (.box t' cs false) => need (C.ty t) fun ti => must (Nat.beq t t' && Nat.beq cs.length ti.leaves.length) (bCells D obs1 (j + 1) h fun bs => K (cs ++ bs))
    | _ => none
  | j, .row _ _ _ _ :: h, K => bif memN j D then bCells D obs1 (j + 1) h fun bs => K (.ref j :: bs) else bCells D obs1 (j + 1) h K
  | j, .nrow _ _ _ _ :: h, K => bif memN j D then bCells D obs1 (j + 1) h fun bs => K (.ref j :: bs) else bCells D obs1 (j + 1) h K
  | _, .gone :: _, _ => none
def finX (fn : Func) (own : List (Option Nat)) (D : List Nat) (h : Obs) (v : V) (obs1 : Obs) : Option V :=
  resCells C fn.resultTypes.toList v fun cs => leavesAll C fn.resultTypes.toList fun ls => bCells C D obs1 0 h fun bs =>
  giveLeaves C (bIds 0 h) (ls ++ bLeaves C D 0 h) (padOwn ls own ++ bOwn C D 0 h) (cs ++ bs) obs1 fun xs => some (.tup xs)
def putB (D : List Nat) (L : Nat) : Nat → List Nat → Obs → List V → Obs → (Obs → Option α) → Option α
  | _, [], _, _, o, K => K o
  | j, i :: X, .box t _ _ :: h, ys, o, K => need (C.ty t) fun ti => must (flatB C t (ys.take ti.leaves.length))
      (putB D L (j + 1) X h (ys.drop ti.leaves.length) (setOb o i (.box t (ys.take ti.leaves.length) false)) K)
  | j, i :: X, .row _ _ _ _ :: h, ys, o, K => bif memN j D then match ys with
      | .ref m :: ys => match o[m]? with
        | some (.row t n c false) => must (Nat.ble L m) (putB D L (j + 1) X h ys (setOb (setOb o i (.row t n c false)) m .gone) K)
        | _ => none
      | _ => none
    else putB D L (j + 1) X h ys (setOb o i .gone) K
  | j, i :: X, .nrow _ _ _ _ :: h, ys, o, K => bif memN j D then match ys with
      | .ref m :: ys => match o[m]? with
        | some (.nrow [] t n c) => must (Nat.ble L m) (putB D L (j + 1) X h ys (setOb (setOb o i (.nrow [] t n c)) m .gone) K)
        | _ => none
      | _ => none
    else putB D L (j + 1) X h ys (setOb o i .gone) K
  | _, _ :: _, _, _, _, _ => none
def dirIdx (l : List Nat) : List Nat → Nat → List Nat
  | [], _ => []
  | i :: r, j => bif memN i l then j :: dirIdx l r (j + 1) else dirIdx l r (j + 1)
def forceN0 : List Nat → (List Nat → Option α) → Option α
  | [], K => K []
  | x :: r, K => forceN0 r fun l => K (x :: l)
def callX (call : CallT) (mode keep : Bool) (f : Nat) (args : List V) (obs : Obs) (K : V → Obs → Option α) : Option α :=
  need (C.code f) fun fn =>
  forceN0 (reach C obs 60 [] (bif mode then argIds args else ptrIds args)) fun X =>
  must (nodupN X && allLt obs.length X && allOpenX obs X) <|
  forceN0 (bif mode then [] else lendIds obs (noPtrs args)) fun lent =>
  must (apartN lent X) <|
  lendX C mode X obs fn.params.toList args fun xs =>
  forceN0 (bif mode && keep then dirIdx (argIds args) X 0 else []) fun D =>
  need (call V f xs (renObs C X (pick obs X)) fun v obs1 => finX C fn (C.own f) D (shape (renObs C X (pick obs X))) v obs1) fun r =>
  asTup (some r) fun rs => leavesAll C fn.resultTypes.toList fun ls =>
  takeLeaves (ls ++ bLeaves C D 0 (shape (renObs C X (pick obs X)))) (padOwn ls (C.own f) ++ bOwn C D 0 (shape (renObs C X (pick obs X)))) rs 0
    (bif shares C (ls ++ bLeaves C D 0 (shape (renObs C X (pick obs X)))) (padOwn ls (C.own f) ++ bOwn C D 0 (shape (renObs C X (pick obs X)))) then shutAll obs lent else obs) fun ys obs2 =>
  groupRes C fn.resultTypes.toList (ys.take ls.length) fun v => putB C D obs.length 0 X (shape (renObs C X (pick obs X))) (ys.drop ls.length) obs2 fun obs3 => K v obs3
def callF (call : CallT) (f : Nat) (args : List V) (obs : Obs) (K : V → Obs → Option α) : Option α :=
  match C.prim f with
  | some p => p.run α args obs K
  | none => bif C.inl f then call α f args obs K else match C.wri f with
    | 0 => callM C call f args obs K
    | 1 => callX C call true true f args obs fun v obs => foldGo C obs 0 obs fun obs => K v obs
    | 3 => callX C call true false f args obs K
    | _ => callX C call false true f args obs K
noncomputable def op (nm : NM) (call : CallT) (e : Env) (obs : Obs) (o : Op) (K : V → Obs → Option α) : Option α :=
  match o with
  | .move x | .assign x => K (ev e x) obs
  | .pick c a b => asBool (some (ev e c)) fun t => ask t fun t => K (bif t then ev e a else ev e b) obs
  | .alloc t => need (C.ty t) fun ti => newBox C obs t (ofConsts ti.zero) K
  | .box t x => need (C.ty t) fun ti => match ev e x with
    | .agg cs => must (Nat.beq cs.length ti.size && ti.agg) (newBox C obs t cs K)
    | v => unprj v fun v => must (v.solid && !ti.agg) (newBox C obs t [v] K)
  | .build t ps => build C t (evps e ps.toList) fun v => K v obs
  | .buildSlice t n ps => bif nrowsB C nm t then buildSliceN C obs t n (evps e ps.toList) K else buildSlice C obs t n (evps e ps.toList) K
  | .load t a => loadOut C nm obs t (ev e a) K
  | .store t a x => store C obs t (ev e a) (ev e x) fun obs => K .u obs
  | .nilCheck x => match ev e x with
    | .ptr i off => K (.ptr i off) obs
    | .pin cs off => K (.pin cs off) obs
    | _ => none
  | .binOp op t x y _ => bif isNilV (ev e y) then nilOp C obs op t (ev e x) fun v => K v obs else binOp C op t (ev e x) (ev e y) fun v => K v obs
  | .unOp op _ x => unOp op (ev e x) fun v => K v obs
  | .convert s d x => convert C obs s d (ev e x) K
  | .makeFunc (.func f) first caps => match first.toList with
    | [] => must ((evs e caps.toList).all V.solid) (K (.fn f (evs e caps.toList)) obs)
    | _ => none
  | .makeSlice t l c => bif nrowsB C nm t then makeSliceN C obs t (ev e l) (ev e c) K else makeSlice C obs t (ev e l) (ev e c) K
  | .slice t x l h m => match m with
    | none => slice C obs t (ev e x) (evo e l) (evo e h) K
    | some _ => none
  | .fieldAddr t x f => fieldAt C t f fun off _ => match ev e x with
    | .ptr i o => K (.ptr i (o + off)) obs
    | .pin cs o => K (.pin cs (o + off)) obs
    | _ => none
  | .field t x f => fieldAt C t f fun off ti => match ev e x with
    | .agg cs => bif ti.agg then must (Nat.ble (off + ti.size) cs.length) (K (.agg ((cs.drop off).take ti.size)) obs) else get cs[off]? fun v => K v obs
    | _ => none
  | .indexAddr t x i => indexAddr C obs t (ev e x) (ev e i) fun v => K v obs
  | .index t x i => match ev e x, ev e i with
    | .str s, .int _ i => need (C.ty t) fun ti => match ti.ty with
      | .str => must (inB i s.size) (K (.int .u8 (s.data.toList.getD i.toNat 0).toNat) obs)
      | _ => none
    | .agg cs, .int _ i => indexArr C t cs i fun v => K v obs
    | _, _ => none
  | .extract x i => match ev e x with
    | .tup vs => get vs[i]? fun v => K v obs
    | _ => none
  | .call { callee := .builtin b, args, argTypes } => match b, args.toList, argTypes.toList with
    | .len, [x], [t] => lenOf C obs t (ev e x) fun v => K v obs
    | .append, [x, y], [t, t'] => bif Nat.beq t t' then (bif isNrow obs (ev e y) then appendN C obs t (ev e x) (ev e y) K else append C obs t (ev e x) (ev e y) K) else appendZ C obs t t' (ev e x) (ev e y) K
    | .min, [x, y], _ => minI [ev e x, ev e y] fun v => K v obs
    | .max, [x, y], _ => maxI [ev e x, ev e y] fun v => K v obs
    | _, _, _ => none
  | .call { callee := .value f, args, .. } => match ev e f with
    | .fn f caps => callF C call f (evs e args.toList ++ caps) obs K
    | _ => none
  | _ => none
def putE (e : Env) (d : Option Nat) (v : V) : Env := match d with | some d => (d, v) :: e | none => e
def isUndef : V → Bool
  | .tup [] => true
  | _ => false
def operG (f : Env → Obs → Op → (V → Obs → Option α) → Option α) (all : Array Oper) (e : Env) (obs : Obs) (o : Oper) (K : Env → Obs → Option α) : Option α :=
  match o.guard with
  | none => f e obs o.op fun v obs => K (putE e o.dst v) obs
  | some (j, want) => match (all[j]?).bind (·.dst) with
    | none => none
    | some d => bif isUndef (look e d) then K (putE e o.dst (.tup [])) obs else asBool (some (look e d)) fun t => ask t fun t =>
      bif t == want then f ((d, .bool t) :: e) obs o.op fun v obs => K (putE ((d, .bool t) :: e) o.dst v) obs
      else K (putE ((d, .bool t) :: e) o.dst (.tup [])) obs
noncomputable def oper (nm : NM) (call : CallT) (all : Array Oper) (e : Env) (obs : Obs) (o : Oper) (K : Env → Obs → Option α) : Option α := operG (op C nm call) all e obs o K
def clears (o o2 : Oper) : Option (Nat × Operand × Operand) :=
  match o2.op with
  | .call { callee := .builtin .clear, args, argTypes } => match o.op, o.dst, o.guard, o2.guard, args.toList, argTypes.toList with
    | .slice t x (some l) none none, some d, none, none, [.tmp d'], [t'] => bif Nat.beq d d' && Nat.beq t t' then some (t, x, l) else none
    | _, _, _, _, _, _ => none
  | _ => none
def clearAt (obs : Obs) (t : Nat) (x l : V) (K : Obs → Option α) : Option α :=
  elemOf C t fun e te => match x with
    | .ref id => match obs[id]? with
      | some (.row e' n cs false) => must (Nat.beq e e') <| bnd (some l) 0 n fun l => K (setOb obs id (.row e' n (splice cs (l * te.size) (reps (n - l) (ofConsts te.zero))) false))
      | _ => none
    | _ => none
noncomputable def opers (nm : NM) (call : CallT) (all : Array Oper) : List Oper → Env → Obs → (Env → Obs → Option α) → Option α
  | [], e, obs, K => K e obs
  | [o], e, obs, K => oper C nm call all e obs o K
  | o :: o2 :: r, e, obs, K => match clears o o2 with
    | some c => clearAt C obs c.1 (ev e c.2.1) (ev e c.2.2) fun obs => opers nm call all r (putE (putE e o.dst .u) o2.dst .u) obs K
    | none => oper C nm call all e obs o fun e obs => opers nm call all (o2 :: r) e obs K
def openB : Ob → Bool
  | .nrow .. => true
  | .box _ _ false => true
  | .row _ _ _ false => true
  | _ => false
def keptB (X : List Nat) (i : Nat) (o : Ob) : Bool := memN i X || !openB o
def eraseF (X : List Nat) : Nat → Obs → Obs
  | _, [] => []
  | i, o :: r => (bif keptB X i o then o else .gone) :: eraseF X (i + 1) r
def mergeF (X : List Nat) : Nat → Obs → Obs → Obs
  | _, [], r' => r'
  | i, o :: r, o' :: r' => (bif keptB X i o then o' else o) :: mergeF X (i + 1) r r'
  | i, o :: r, [] => o :: mergeF X (i + 1) r []
def touch (C : Cfg) (e : Env) (obs : Obs) (o : Op) : List Nat := match o with
  | .nilCheck _ | .move _ | .assign _ | .fieldAddr .. => []
  | o => reach C obs 60 [] (argIds (evs e o.operands.toList))
def calmOp (C : Cfg) : Op → Bool
  | .move _ | .assign _ | .pick .. | .build .. | .nilCheck _ | .binOp .. | .unOp .. | .makeFunc .. | .slice .. | .fieldAddr .. | .field .. | .indexAddr .. | .index .. | .extract .. => true
  | .convert _ d _ => match C.ty d with
    | some ti => match ti.ty with
      | .int _ => true
      | _ => false
    | none => false
  | .call { callee := .builtin b, .. } => match b with
    | .len | .min | .max => true
    | _ => false
  | _ => false
def allOpen (obs : Obs) : List Nat → Bool
  | [] => true
  | i :: r => (match obs[i]? with | some o => openB o | none => false) && allOpen obs r
def allLive (obs : Obs) : List Nat → Bool
  | [] => true
  | i :: r => (match obs[i]? with | some .gone => false | some _ => true | none => false) && allLive obs r
def loadB (W : List Nat) (obs : Obs) : V → Bool
  | .pin _ _ => allOpen obs W
  | .ptr id _ => !memN id W && allLive obs W
  | _ => false
def loadZ (W Z : List Nat) (obs : Obs) : V → Bool
  | .ptr id _ => memN id Z && (!memN id W && allLive obs W)
  | _ => false
def liveIds : Nat → Obs → List Nat
  | _, [] => []
  | i, .gone :: r => liveIds (i + 1) r
  | i, _ :: r => i :: liveIds (i + 1) r
noncomputable def opT (nm : NM) (call : CallT) (W Z : List Nat) (fr : Bool) (e : Env) (obs : Obs) (o : Op) (K : V → Obs → Option α) : Option α :=
  match o with
  | .load t a => must (loadZ W Z obs (ev e a) || (fr && loadB W obs (ev e a))) (load C obs t (ev e a) fun v => K v obs)
  | o => must (calmOp C o) (op C nm call e obs o K)
def allIn (W : List Nat) (L : Nat) : List Nat → Bool
  | [] => true
  | i :: r => (memN i W || Nat.ble L i) && allIn W L r
def forceN : List Nat → (List Nat → Option α) → Option α
  | [], K => K []
  | x :: r, K => forceN r fun l => K (x :: l)
def eraseK (X : List Nat) : Nat → Obs → (Obs → Option α) → Option α
  | _, [], K => K []
  | i, o :: r, K => match keptB X i o with
    | true => eraseK X (i + 1) r fun l => K (o :: l)
    | false => eraseK X (i + 1) r fun l => K (.gone :: l)
def mergeK (X : List Nat) : Nat → Obs → Obs → (Obs → Option α) → Option α
  | _, [], r', K => K r'
  | i, o :: r, o' :: r', K => match keptB X i o with
    | true => mergeK X (i + 1) r r' fun l => K (o' :: l)
    | false => mergeK X (i + 1) r r' fun l => K (o :: l)
  | i, o :: r, [], K => mergeK X (i + 1) r [] fun l => K (o :: l)
theorem forceN_eq : ∀ (l : List Nat) (K : List Nat → Option α), forceN l K = K l
  | [], K => rfl
  | x :: r, K => by simp only [forceN]; rw [forceN_eq r]
theorem eraseK_eq (X : List Nat) : ∀ (obs : Obs) (i : Nat) (K : Obs → Option α), eraseK X i obs K = K (eraseF X i obs)
  | [], i, K => rfl
  | o :: r, i, K => by
    simp only [eraseK, eraseF]
    cases keptB X i o <;> dsimp only <;> rw [eraseK_eq X r] <;> rfl
theorem mergeK_eq (X : List Nat) : ∀ (obs obs' : Obs) (i : Nat) (K : Obs → Option α), mergeK X i obs obs' K = K (mergeF X i obs obs')
  | [], r', i, K => by simp only [mergeK, mergeF]
  | o :: r, [], i, K => by simp only [mergeK, mergeF]; rw [mergeK_eq X r]
  | o :: r, o' :: r', i, K => by
    simp only [mergeK, mergeF]
    cases keptB X i o <;> dsimp only <;> rw [mergeK_eq X r] <;> rfl
def calmTys (C : Cfg) : List Nat → Bool
  | [] => true
  | t :: r => (match C.ty t with | some ti => !hasSl ti.leaves | none => false) && calmTys C r
def calmCall (C : Cfg) : Op → Bool
  | .call { callee := .value (.func f), .. } => Nat.beq (C.wri f) 0 && (!C.inl f && (match C.code f with | some fn => calmTys C fn.resultTypes.toList | none => false))
  | _ => false
def shutK : Obs → (Obs → Option α) → Option α
  | [], K => K []
  | .gone :: r, K => shutK r fun l => K (.gone :: l)
  | .box t cs _ :: r, K => shutK r fun l => K (.box t cs true :: l)
  | .row t n cs _ :: r, K => shutK r fun l => K (.row t n cs true :: l)
  | .nrow [] t n cs :: r, K => shutK r fun l => K (.row t n (bareL cs) true :: l)
  | .nrow (_ :: _) _ _ _ :: r, K => shutK r fun l => K (.gone :: l)
mutual
def plainV : V → Bool
  | .bool _ | .int _ _ | .str _ => true
  | .agg cs => plainVs cs
  | .tup cs => plainVs cs
  | _ => false
def plainVs : List V → Bool
  | [] => true
  | v :: r => plainV v && plainVs r
end
noncomputable def opD (nm : NM) (call : CallT) (W : List Nat) (L : Nat) (tl : Bool) (e : Env) (obs : Obs) (o : Op) (K : V → Obs → Option α) : Option α :=
  match o with
  | .load t a => load C obs t (ev e a) fun v => K v obs
  | o => match calmCall C o with
    | true => shutK obs fun obsS => op C nm call e obsS o fun v _ => must (plainV v) (K v obs)
    | false => forceN (touch C e obs o) fun X => must (tl || allIn W L X) (eraseK X 0 obs fun obsE => op C nm call e obsE o fun v obs' => mergeK X 0 obs obs' fun obs'' => K v obs'')
noncomputable def opersP (nm : NM) (call : CallT) (ops : Array Oper) (W : List Nat) (L : Nat) (Z tails : List Nat) : Plan → Bool → Env → Obs → (Env → Obs → Option α) → Option α
  | .done, _, e, obs, K => K e obs
  | .take i p, fr, e, obs, K => need ops[i]? fun o => operG (opT C nm call W Z fr) ops e obs o fun e obs => opersP nm call ops W L Z tails p fr e obs K
  | .alt i p .nil, _, e, obs, K => need ops[i]? fun o => operG (opD C nm call W L (memN i tails)) ops e obs o fun e obs => opersP nm call ops W L Z tails p false e obs K
  | .alt i p rest, fr, e, obs, K => both (need ops[i]? fun o => operG (opD C nm call W L (memN i tails)) ops e obs o fun e obs => opersP nm call ops W L Z tails p false e obs K) (opersP nm call ops W L Z tails rest fr e obs K)
  | .nil, _, _, _, _ => none
  | .late i p, _, e, obs, K => need ops[i]? fun o => op C nm call e obs o.op fun v obs => opersP nm call ops W L Z tails p false (putE e o.dst v) obs K
  | .drop i p, fr, e, obs, K => need ops[i]? fun o => opersP nm call ops W L Z tails p fr (putE e o.dst .u) obs K
def derefs (C : Cfg) (obs : Obs) : List V → List Nat
  | [] => []
  | .ptr i _ :: r => obIds C obs[i]? ++ derefs C obs r
  | .ref _ :: r => derefs C obs r
  | v :: r => ids1 v ++ derefs C obs r
def looks (e : Env) : List Nat → List V
  | [] => []
  | t :: r => look e t :: looks e r
def spineK : Obs → (Obs → Option α) → Option α
  | [], K => K []
  | .gone :: r, K => spineK r fun l => K (.gone :: l)
  | .box t cs sh :: r, K => match sh with
    | true => spineK r fun l => K (.box t cs true :: l)
    | false => spineK r fun l => K (.box t cs false :: l)
  | .nrow h t n cs :: r, K => spineK r fun l => K (.nrow h t n cs :: l)
  | .row t n cs sh :: r, K => match sh with
    | true => spineK r fun l => K (.row t n cs true :: l)
    | false => spineK r fun l => K (.row t n cs false :: l)
theorem spineK_eq : ∀ (obs : Obs) (K : Obs → Option α), spineK obs K = K obs
  | [], K => rfl
  | o :: r, K => by
    cases o with
    | gone => simp only [spineK]; rw [spineK_eq r]
    | nrow h t n cs => simp only [spineK]; rw [spineK_eq r]
    | box t cs sh => cases sh <;> (simp only [spineK]; rw [spineK_eq r])
    | row t n cs sh => cases sh <;> (simp only [spineK]; rw [spineK_eq r])
noncomputable def exec.rounds (body : Env → Obs → (Exit' → Env → Obs → Option α) → Option α) (id n0 : Nat) (live : List Nat) : Nat → Env → Obs → (Exit' → Env → Obs → Option α) → Option α
  | 0, _, _, _ => none
  | n + 1, e, obs, K => body e obs fun x e obs => match x with
    | .norm => normal C n0 live e obs fun e obs => exec.rounds body id n0 live n e obs K
    | .exit i => bif Nat.beq i id then K .norm e obs else K (.exit i) e obs
    | .ret => K .ret e obs
noncomputable def exec (call : CallT) (fuel f n0 : Nat) : Code → Env → Obs → (Exit' → Env → Obs → Option α) → Option α
  | .skip, e, obs, K => K .norm e obs
  | .region _ ops false, e, obs, K => spineK obs fun obs => opers C (C.nest f) call ops ops.toList e obs fun e obs => K .norm e obs
  | .region id ops true, e, obs, K => spineK obs fun obs => forceN (reach C obs 60 [] (argIds (looks e (C.plan f id).1) ++ derefs C obs (looks e (C.plan f id).2.1))) fun W => forceN (liveIds 0 obs) fun Z => opersP C (C.nest f) call ops W obs.length Z (C.plan f id).2.2.1 (C.plan f id).2.2.2 true e obs fun e obs => K .norm e obs
  | .seq a b, e, obs, K => exec call fuel f n0 a e obs fun x e obs => match x with
    | .norm => exec call fuel f n0 b e obs K
    | x => K x e obs
  | .cond c a b, e, obs, K => asBool (some (ev e c)) fun t => ask t fun t => match t with
    | true => exec call fuel f n0 a e obs K
    | false => exec call fuel f n0 b e obs K
  | .block id (.loop a), e, obs, K => normal C n0 (C.live f id) e obs fun e obs => exec.rounds C (fun e obs K => exec call fuel f n0 a e obs K) id n0 (C.live f id) fuel e obs K
  | .block id a, e, obs, K => exec call fuel f n0 a e obs fun x e obs => match x with
    | .exit i => bif Nat.beq i id then K .norm e obs else K (.exit i) e obs
    | x => K x e obs
  | .exit i, e, obs, K => K (.exit i) e obs
  | .ret, e, obs, K => K .ret e obs
  | _, _, _, _ => none
def results (obs : Obs) (e : Env) : List ResultVar → (List V → Option α) → Option α
  | [], K => K []
  | .tmp t :: r, K => results obs e r fun vs => K (look e t :: vs)
  | .cell a t :: r, K => load C obs t (look e a) fun v => results obs e r fun vs => K (v :: vs)
def params : Nat → List V → Env
  | _, [] => []
  | i, v :: r => (i, v) :: params (i + 1) r
noncomputable def enter (call : CallT) (fuel : Nat) (f : Nat) (args : List V) (obs : Obs) (K : V → Obs → Option α) : Option α :=
  need (C.code f) fun fn => need fn.body fun c =>
  exec C call fuel f obs.length c (params 0 args) obs fun x e obs => match x with
    | .exit _ => none
    | _ => results C obs e fn.results.toList fun vs => match vs with
      | [v] => K v obs
      | vs => K (.tup vs) obs
noncomputable def run : Nat → CallT
  | 0 => fun _ _ _ _ _ => none
  | k + 1 => fun _ f args obs K => enter C (run k) k f args obs K
end
end Go.PI
namespace Go.PI
section
variable (C : Cfg) {α : Type}
noncomputable def kont (call : CallT) (fuel f n0 : Nat) : List Bool → List Nat → Code → (Exit' → Env → Obs → Option α) → (Exit' → Env → Obs → Option α)
  | false :: p, fs, .seq a b, K => kont call fuel f n0 p fs a fun x e obs => match x with
    | .norm => exec C call fuel f n0 b e obs K
    | x => K x e obs
  | true :: p, fs, .seq _ b, K => kont call fuel f n0 p fs b K
  | false :: p, fs, .cond _ a _, K => kont call fuel f n0 p fs a K
  | true :: p, fs, .cond _ _ b, K => kont call fuel f n0 p fs b K
  | _ :: p, n :: fs, .block id (.loop a), K => kont call fuel f n0 p fs a fun x e obs => match x with
    | .norm => normal C n0 (C.live f id) e obs fun e obs => exec.rounds C (fun e obs K => exec C call fuel f n0 a e obs K) id n0 (C.live f id) n e obs K
    | .exit i => bif Nat.beq i id then K .norm e obs else K (.exit i) e obs
    | .ret => K .ret e obs
  | _, _, .block _ (.loop _), K => K
  | _ :: p, fs, .block id a, K => kont call fuel f n0 p fs a fun x e obs => match x with
    | .exit i => bif Nat.beq i id then K .norm e obs else K (.exit i) e obs
    | x => K x e obs
  | _, _, _, K => K
def loopAt : List Bool → Code → Code
  | false :: p, .seq a _ => loopAt p a
  | true :: p, .seq _ b => loopAt p b
  | false :: p, .cond _ a _ => loopAt p a
  | true :: p, .cond _ _ b => loopAt p b
  | _ :: p, .block _ (.loop a) => loopAt p a
  | [], .block _ (.loop a) => a
  | _ :: p, .block _ a => loopAt p a
  | _, _ => .skip
noncomputable def runV (k f : Nat) (xs : List V) : Option V := run C k V f xs [] fun v obs1 => need (C.code f) fun fn => giveRes C fn.resultTypes.toList (C.own f) v obs1 some
noncomputable def runW (k f : Nat) (D : List Nat) (xs : List V) (sub : Obs) : Option V := run C k V f xs sub fun v obs1 => need (C.code f) fun fn => finX C fn (C.own f) D (shape sub) v obs1
def final (f : Nat) (fn : Func) : Exit' → Env → Obs → Option V := fun x e obs => match x with
  | .exit _ => none
  | _ => results C obs e fn.results.toList fun vs => match vs with
    | [v] => giveRes C fn.resultTypes.toList (C.own f) v obs some
    | vs => giveRes C fn.resultTypes.toList (C.own f) (.tup vs) obs some
noncomputable def runL (k f id : Nat) (p : List Bool) (fs : List Nat) (n : Nat) (e : Env) (obs : Obs) : Option V :=
  need (C.code f) fun fn => need fn.body fun c =>
  exec.rounds C (fun e obs K => exec C (run C k) k f 0 (loopAt p c) e obs K) id 0 (C.live f id) n e obs (kont C (run C k) k f 0 p fs c (final C f fn))
def finalW (D : List Nat) (h : Obs) (f : Nat) (fn : Func) : Exit' → Env → Obs → Option V := fun x e obs => match x with
  | .exit _ => none
  | _ => results C obs e fn.results.toList fun vs => match vs with
    | [v] => finX C fn (C.own f) D h v obs
    | vs => finX C fn (C.own f) D h (.tup vs) obs
noncomputable def runLW (k f : Nat) (D : List Nat) (h : Obs) (id : Nat) (p : List Bool) (fs : List Nat) (n : Nat) (e : Env) (obs : Obs) : Option V :=
  need (C.code f) fun fn => need fn.body fun c =>
  exec.rounds C (fun e obs K => exec C (run C k) k f h.length (loopAt p c) e obs K) id h.length (C.live f id) n e obs (kont C (run C k) k f h.length p fs c (finalW C D h f fn))
end
end Go.PI
