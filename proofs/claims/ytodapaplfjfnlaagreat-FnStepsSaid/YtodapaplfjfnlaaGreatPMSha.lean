/-
  SHA-256 over words of 32 bits: what both forms of it come to. Words as cells, in both kinds.
-/
import Derived.Test.YtodapaplfjfnlaaGreatPIWords
namespace Go.PI.Sha
open Go Go.PI
set_option linter.unusedVariables false
set_option linter.unusedSimpArgs false
abbrev Wd := BitVec 32
def w64s (l : List Wd) : List V := l.map fun x => V.int .i64 (x.toNat : Int)
def w32s (l : List Wd) : List V := l.map fun x => V.int .u32 (x.toNat : Int)
@[simp] theorem w64s_length (l : List Wd) : (w64s l).length = l.length := by simp [w64s]
@[simp] theorem w32s_length (l : List Wd) : (w32s l).length = l.length := by simp [w32s]
theorem w64s_get {l : List Wd} {i : Nat} (h : i < l.length) : (w64s l)[i]? = some (.int .i64 ((l.getD i 0).toNat : Int)) := by simp [w64s, h]
theorem w32s_get {l : List Wd} {i : Nat} (h : i < l.length) : (w32s l)[i]? = some (.int .u32 ((l.getD i 0).toNat : Int)) := by simp [w32s, h]
theorem w64s_splice {l : List Wd} {i : Nat} (h : i < l.length) (x : Wd) : splice (w64s l) i [.int .i64 (x.toNat : Int)] = w64s (l.set i x) := by
  unfold splice w64s
  rw [List.set_eq_take_append_cons_drop, if_pos h]
  simp [List.map_take, List.map_drop]
theorem w32s_splice {l : List Wd} {i : Nat} (h : i < l.length) (x : Wd) : splice (w32s l) i [.int .u32 (x.toNat : Int)] = w32s (l.set i x) := by
  unfold splice w32s
  rw [List.set_eq_take_append_cons_drop, if_pos h]
  simp [List.map_take, List.map_drop]
theorem w64s_all (l l' : List Wd) (h : l.length = l'.length) : splice (w64s l) 0 (w64s l') = w64s l' := by
  unfold splice
  simp [h]
theorem w32s_all (l l' : List Wd) (h : l.length = l'.length) : splice (w32s l) 0 (w32s l') = w32s l' := by
  unfold splice
  simp [h]
def rot (x : Wd) (n : Nat) : Wd := x >>> n ||| x <<< (32 - n)
theorem of32 (x : Wd) : BitVec.ofInt IntKind.u32.bits (x.toNat : Int) = x := by
  rw [BitVec.ofInt_natCast]; show BitVec.ofNat 32 x.toNat = x; simp
theorem of64 (n : Nat) (h : n < 2 ^ 64) : (BitVec.ofInt IntKind.i64.bits (n : Int)).toNat = n := by
  rw [BitVec.ofInt_natCast, BitVec.toNat_ofNat]; exact Nat.mod_eq_of_lt h
theorem wrap32 (n : Nat) (h : n < 4294967296) : IntKind.u32.wrap (n : Int) = (n : Int) := by rw [IntKind.wrap_u32]; omega
theorem b32_xor (x y : Wd) : PI.bits IntKind.u32 (fun a b => a ^^^ b) (x.toNat : Int) (y.toNat : Int) = ((x ^^^ y).toNat : Int) := by
  unfold PI.bits; rw [of32, of32]; exact wrap32 _ (x ^^^ y).isLt
theorem b32_and (x y : Wd) : PI.bits IntKind.u32 (fun a b => a &&& b) (x.toNat : Int) (y.toNat : Int) = ((x &&& y).toNat : Int) := by
  unfold PI.bits; rw [of32, of32]; exact wrap32 _ (x &&& y).isLt
theorem b32_or (x y : Wd) : PI.bits IntKind.u32 (fun a b => a ||| b) (x.toNat : Int) (y.toNat : Int) = ((x ||| y).toNat : Int) := by
  unfold PI.bits; rw [of32, of32]; exact wrap32 _ (x ||| y).isLt
theorem b32_not (x : Wd) : PI.bits IntKind.u32 (fun a b => a ^^^ b) 4294967295 (x.toNat : Int) = ((~~~x).toNat : Int) := by
  have := b32_xor (BitVec.allOnes 32) x
  rw [BitVec.allOnes_xor] at this
  exact this
theorem b64_xor (x y : Wd) : PI.bits IntKind.i64 (fun a b => a ^^^ b) (x.toNat : Int) (y.toNat : Int) = ((x ^^^ y).toNat : Int) := by
  unfold PI.bits
  have hx := x.isLt
  have hy := y.isLt
  have e := BitVec.toNat_xor (x := x) (y := y)
  have hz := (x ^^^ y).isLt
  rw [BitVec.toNat_xor, of64 _ (by omega), of64 _ (by omega), ← e, w64_nat (by omega)]
theorem b64_and (x y : Wd) : PI.bits IntKind.i64 (fun a b => a &&& b) (x.toNat : Int) (y.toNat : Int) = ((x &&& y).toNat : Int) := by
  unfold PI.bits
  have hx := x.isLt
  have hy := y.isLt
  have e := BitVec.toNat_and (x := x) (y := y)
  have hz := (x &&& y).isLt
  rw [BitVec.toNat_and, of64 _ (by omega), of64 _ (by omega), ← e, w64_nat (by omega)]
theorem sh_3 (x : Wd) : (x.toNat : Int).fdiv 8 = ((x >>> 3).toNat : Int) := by
  rw [Int.fdiv_eq_ediv_of_nonneg _ (by decide), BitVec.toNat_ushiftRight, Nat.shiftRight_eq_div_pow]; omega
theorem sh_10 (x : Wd) : (x.toNat : Int).fdiv 1024 = ((x >>> 10).toNat : Int) := by
  rw [Int.fdiv_eq_ediv_of_nonneg _ (by decide), BitVec.toNat_ushiftRight, Nat.shiftRight_eq_div_pow]; omega
theorem u32_add (x y : Wd) : IntKind.u32.wrap ((x.toNat : Int) + (y.toNat : Int)) = ((x + y).toNat : Int) := by
  rw [IntKind.wrap_u32, BitVec.toNat_add]; omega
theorem m32 (n : Nat) (h : n < 9223372036854775808) : (IntKind.i64.wrap (n : Int)).tmod 4294967296 = ((n % 4294967296 : Nat) : Int) := by
  rw [w64_nat h]; exact (Int.ofNat_tmod n 4294967296).symm
theorem s2 (a b : Wd) : (IntKind.i64.wrap ((a.toNat : Int) + (b.toNat : Int))).tmod 4294967296 = ((a + b).toNat : Int) := by
  have ha := a.isLt
  have hb := b.isLt
  have := m32 (a.toNat + b.toNat) (by omega)
  rw [BitVec.toNat_add]
  exact this
theorem s4 (a b c d : Wd) : (IntKind.i64.wrap (IntKind.i64.wrap (IntKind.i64.wrap ((a.toNat : Int) + (b.toNat : Int)) + (c.toNat : Int)) + (d.toNat : Int))).tmod 4294967296 = ((a + b + c + d).toNat : Int) := by
  have ha := a.isLt
  have hb := b.isLt
  have hc := c.isLt
  have hd := d.isLt
  have := m32 (a.toNat + b.toNat + c.toNat + d.toNat) (by omega)
  rw [w64 (n := (a.toNat : Int) + b.toNat) (by omega) (by omega), w64 (n := (a.toNat : Int) + b.toNat + c.toNat) (by omega) (by omega)]
  simp only [BitVec.toNat_add]
  refine this.trans ?_
  omega
theorem s5 (a b c d e : Wd) : (IntKind.i64.wrap (IntKind.i64.wrap (IntKind.i64.wrap (IntKind.i64.wrap ((a.toNat : Int) + (b.toNat : Int)) + (c.toNat : Int)) + (d.toNat : Int)) + (e.toNat : Int))).tmod 4294967296 = ((a + b + c + d + e).toNat : Int) := by
  have ha := a.isLt
  have hb := b.isLt
  have hc := c.isLt
  have hd := d.isLt
  have he := e.isLt
  have := m32 (a.toNat + b.toNat + c.toNat + d.toNat + e.toNat) (by omega)
  rw [w64 (n := (a.toNat : Int) + b.toNat) (by omega) (by omega), w64 (n := (a.toNat : Int) + b.toNat + c.toNat) (by omega) (by omega), w64 (n := (a.toNat : Int) + b.toNat + c.toNat + d.toNat) (by omega) (by omega)]
  simp only [BitVec.toNat_add]
  refine this.trans ?_
  omega
theorem not64 (x : Wd) : IntKind.i64.wrap (4294967295 - (x.toNat : Int)) = ((~~~x).toNat : Int) := by
  have := x.isLt
  rw [w64 (by omega) (by omega), BitVec.toNat_not]; omega
theorem rot_toNat (x : Wd) (n : Nat) : (rot x n).toNat = (x.toNat / 2 ^ n ||| (x.toNat * 2 ^ (32 - n)) % 4294967296) := by
  unfold rot
  rw [BitVec.toNat_or, BitVec.toNat_ushiftRight, BitVec.toNat_shiftLeft, Nat.shiftRight_eq_div_pow, Nat.shiftLeft_eq]
theorem wu64 (n : Nat) (h : n < 18446744073709551616) : IntKind.u64.wrap (n : Int) = (n : Int) := by show ((n : Int) % 2 ^ 64) = n; omega
theorem rot64 (x : Wd) {n : Nat} (h0 : 0 < n) (h : n < 32) :
    (PI.bits IntKind.i64 (fun a b => a ||| b) ((x.toNat : Int).fdiv (2 ^ min n 64)) (IntKind.i64.wrap ((x.toNat : Int) * 2 ^ min (32 - n) 64))).tmod 4294967296 = ((rot x n).toNat : Int) := by
  have hx := x.isLt
  have p : 2 ^ (32 - n) ≤ 2147483648 := (Nat.pow_le_pow_right (n := 2) (by decide) (show 32 - n ≤ 31 by omega) : 2 ^ (32 - n) ≤ 2 ^ 31)
  have hm : x.toNat * 2 ^ (32 - n) ≤ 4294967295 * 2147483648 := Nat.mul_le_mul (by omega) p
  have hd : x.toNat / 2 ^ n ≤ x.toNat := Nat.div_le_self _ _
  have e1 : (x.toNat : Int).fdiv (2 ^ min n 64) = ((x.toNat / 2 ^ n : Nat) : Int) := by
    rw [Nat.min_eq_left (by omega), Int.fdiv_eq_ediv_of_nonneg _ (Int.le_of_lt (Int.pow_pos (by decide))), Int.natCast_ediv, Int.natCast_pow]; rfl
  have e2 : (x.toNat : Int) * 2 ^ min (32 - n) 64 = ((x.toNat * 2 ^ (32 - n) : Nat) : Int) := by
    rw [Nat.min_eq_left (by omega), Int.natCast_mul, Int.natCast_pow]; rfl
  rw [e1, e2, w64_nat (by omega)]
  unfold PI.bits
  rw [BitVec.toNat_or, of64 _ (by omega), of64 _ (by omega)]
  have hor : (x.toNat / 2 ^ n ||| x.toNat * 2 ^ (32 - n)) < 2 ^ 63 := Nat.or_lt_two_pow (by omega) (by omega)
  rw [m32 _ (by omega), rot_toNat]
  have : 4294967296 = 2 ^ 32 := rfl
  rw [this, Nat.or_mod_two_pow, Nat.mod_eq_of_lt (a := x.toNat / 2 ^ n) (by omega)]
theorem rot32 (x : Wd) {n : Nat} (h0 : 0 < n) (h : n < 32) :
    PI.bits IntKind.u32 (fun a b => a ||| b) (IntKind.u32.wrap ((x.toNat : Int) * 2 ^ min (32 - n) 32)) ((x.toNat : Int).fdiv (2 ^ min n 32)) = ((rot x n).toNat : Int) := by
  have hx := x.isLt
  have hd : x.toNat / 2 ^ n ≤ x.toNat := Nat.div_le_self _ _
  have e1 : (x.toNat : Int).fdiv (2 ^ min n 32) = ((x >>> n).toNat : Int) := by
    rw [Nat.min_eq_left (by omega), Int.fdiv_eq_ediv_of_nonneg _ (Int.le_of_lt (Int.pow_pos (by decide))), BitVec.toNat_ushiftRight, Nat.shiftRight_eq_div_pow, Int.natCast_ediv, Int.natCast_pow]; rfl
  have e2 : IntKind.u32.wrap ((x.toNat : Int) * 2 ^ min (32 - n) 32) = ((x <<< (32 - n)).toNat : Int) := by
    have e3 : (x.toNat : Int) * 2 ^ min (32 - n) 32 = ((x.toNat * 2 ^ (32 - n) : Nat) : Int) := by
      rw [Nat.min_eq_left (by omega), Int.natCast_mul, Int.natCast_pow]; rfl
    rw [e3, IntKind.wrap_u32, BitVec.toNat_shiftLeft, Nat.shiftLeft_eq]
    generalize x.toNat * 2 ^ (32 - n) = z
    omega
  rw [e1, e2, b32_or, BitVec.or_comm]; rfl
structure St where
  a : Wd
  b : Wd
  c : Wd
  d : Wd
  e : Wd
  f : Wd
  g : Wd
  h : Wd
def St.l (s : St) : List Wd := [s.a, s.b, s.c, s.d, s.e, s.f, s.g, s.h]
def turn (s : St) (w k : Wd) : St :=
  let t1 := s.h + (rot s.e 6 ^^^ rot s.e 11 ^^^ rot s.e 25) + ((s.e &&& s.f) ^^^ (~~~s.e &&& s.g)) + k + w
  let t2 := (rot s.a 2 ^^^ rot s.a 13 ^^^ rot s.a 22) + ((s.a &&& s.b) ^^^ (s.a &&& s.c) ^^^ (s.b &&& s.c))
  ⟨t1 + t2, s.a, s.b, s.c, s.d + t1, s.e, s.f, s.g⟩
def keyN : List Nat := [0x428a2f98, 0x71374491, 0xb5c0fbcf, 0xe9b5dba5, 0x3956c25b, 0x59f111f1, 0x923f82a4, 0xab1c5ed5, 0xd807aa98, 0x12835b01, 0x243185be, 0x550c7dc3, 0x72be5d74, 0x80deb1fe, 0x9bdc06a7, 0xc19bf174, 0xe49b69c1, 0xefbe4786, 0x0fc19dc6, 0x240ca1cc, 0x2de92c6f, 0x4a7484aa, 0x5cb0a9dc, 0x76f988da, 0x983e5152, 0xa831c66d, 0xb00327c8, 0xbf597fc7, 0xc6e00bf3, 0xd5a79147, 0x06ca6351, 0x14292967, 0x27b70a85, 0x2e1b2138, 0x4d2c6dfc, 0x53380d13, 0x650a7354, 0x766a0abb, 0x81c2c92e, 0x92722c85, 0xa2bfe8a1, 0xa81a664b, 0xc24b8b70, 0xc76c51a3, 0xd192e819, 0xd6990624, 0xf40e3585, 0x106aa070, 0x19a4c116, 0x1e376c08, 0x2748774c, 0x34b0bcb5, 0x391c0cb3, 0x4ed8aa4a, 0x5b9cca4f, 0x682e6ff3, 0x748f82ee, 0x78a5636f, 0x84c87814, 0x8cc70208, 0x90befffa, 0xa4506ceb, 0xbef9a3f7, 0xc67178f2]
def key : List Wd := keyN.map (BitVec.ofNat 32)
theorem key_length : key.length = 64 := by decide
def st0 : St := ⟨0x6a09e667, 0xbb67ae85, 0x3c6ef372, 0xa54ff53a, 0x510e527f, 0x9b05688c, 0x1f83d9ab, 0x5be0cd19⟩
def mix : Nat → Nat → St → List Wd → St
  | 0, _, s, _ => s
  | n + 1, i, s, w => mix n (i + 1) (turn s (w.getD i 0) (key.getD i 0)) w
def nextW (w : List Wd) (i : Nat) : Wd :=
  (rot (w.getD (i - 2) 0) 17 ^^^ rot (w.getD (i - 2) 0) 19 ^^^ w.getD (i - 2) 0 >>> 10) + w.getD (i - 7) 0 + (rot (w.getD (i - 15) 0) 7 ^^^ rot (w.getD (i - 15) 0) 18 ^^^ w.getD (i - 15) 0 >>> 3) + w.getD (i - 16) 0
def fillW : Nat → Nat → List Wd → List Wd
  | 0, _, w => w
  | n + 1, i, w => fillW n (i + 1) (w.set i (nextW w i))
def word (b : List UInt8) (i : Nat) : Wd := BitVec.ofNat 32 (numOf ((b.drop (4 * i)).take 4)).toNat
def loadW : Nat → Nat → List Wd → List UInt8 → List Wd
  | 0, _, w, _ => w
  | n + 1, i, w, b => loadW n (i + 1) (w.set i (word b i)) b
def addS (s t : St) : St := ⟨s.a + t.a, s.b + t.b, s.c + t.c, s.d + t.d, s.e + t.e, s.f + t.f, s.g + t.g, s.h + t.h⟩
def sched (b : List UInt8) : List Wd := fillW 48 16 (loadW 16 0 (List.replicate 64 0) b)
def blk (s : St) (b : List UInt8) : St := addS s (mix 64 0 s (sched b))
def blks : Nat → St → List UInt8 → St
  | 0, s, _ => s
  | n + 1, s, m => blks n (blk s m) (m.drop 64)
theorem word_toNat (b : List UInt8) (i : Nat) (h : 4 * i + 4 ≤ b.length) : ((word b i).toNat : Int) = numOf ((b.drop (4 * i)).take 4) := by
  obtain ⟨h1, h2⟩ := numOf_lt ((b.drop (4 * i)).take 4)
  have hl : ((b.drop (4 * i)).take 4).length = 4 := by rw [List.length_take, List.length_drop]; omega
  rw [hl] at h2
  unfold word
  rw [BitVec.toNat_ofNat]
  omega
theorem numOf_four (a b c d : UInt8) : numOf [a, b, c, d] = ((a.toNat * 16777216 + b.toNat * 65536 + c.toNat * 256 + d.toNat : Nat) : Int) := by
  simp only [numOf, List.foldl_cons, List.foldl_nil]; omega
def gap (n : Nat) : Nat := (119 - n % 64) % 64
def pad (m : List UInt8) : List UInt8 := m ++ 128 :: (List.replicate (gap m.length) 0 ++ putT ((m.length : Int) * 8) 8)
theorem pad_length (m : List UInt8) : (pad m).length = m.length + 9 + gap m.length := by
  simp only [pad, List.length_append, List.length_cons, List.length_replicate, putT_length]; omega
theorem pad_mod (m : List UInt8) : (pad m).length % 64 = 0 := by rw [pad_length]; unfold gap; omega
def outB (s : St) : List UInt8 := s.l.flatMap fun x => putT (x.toNat : Int) 4
def sha (m : List UInt8) : List UInt8 := outB (blks ((pad m).length / 64) st0 (pad m))
theorem outB_length (s : St) : (outB s).length = 32 := by simp [outB, St.l]
theorem sha_length (m : List UInt8) : (sha m).length = 32 := outB_length _
end Go.PI.Sha
