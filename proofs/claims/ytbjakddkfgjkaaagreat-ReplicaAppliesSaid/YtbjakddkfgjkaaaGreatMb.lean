/-
  What the functions compute, as plain functions; the program's structs.
  Conditions: none beyond those that each theorem states.
-/
import Derived.Test.YtbjakddkfgjkaaaGreatFc
set_option linter.unusedVariables false
set_option linter.unusedSimpArgs false
namespace Go.Proofs.YtbjakddkfgjkaaaGreat.Fw
open Go.RowKit

def inB (n lo hi : Int) : Bool := decide (lo ≤ n) && decide (n ≤ hi)

/-! ### the seal -/
def sealStep (p : Int × Int) (b : UInt8) : Int × Int := ((p.1 + (b.toNat : Int)) % 65521, (p.2 + (p.1 + (b.toNat : Int)) % 65521) % 65521)
def sealTo (s : ByteArray) : Nat → Int × Int
  | 0 => (1, 0)
  | k + 1 => sealStep (sealTo s k) (s.data.getD k 0)
theorem sealTo_bd (s : ByteArray) (k : Nat) : 0 ≤ (sealTo s k).1 ∧ (sealTo s k).1 < 65521 ∧ 0 ≤ (sealTo s k).2 ∧ (sealTo s k).2 < 65521 := by
  cases k with
  | zero => simp [sealTo]
  | succ k => simp only [sealTo, sealStep]; omega
def mSeal (s : ByteArray) : ByteArray := bstr [(sealTo s s.size).2 / 256 % 256, (sealTo s s.size).2 % 256, (sealTo s s.size).1 / 256 % 256, (sealTo s s.size).1 % 256]

/-! ### strings of bytes -/
theorem bstr_append (a b : List Int) : bstr a ++ bstr b = bstr (a ++ b) := by
  apply ByteArray.ext
  rw [ByteArray.data_append]
  simp [bstr]
theorem bstr_size (l : List Int) : (bstr l).size = l.length := by simp [bstr, ByteArray.size]
theorem emp_size : emp.size = 0 := rfl
theorem emp_append (s : ByteArray) : emp ++ s = s := by
  apply ByteArray.ext
  rw [ByteArray.data_append]
  simp [emp]

/-! ### bits -/
theorem ofInt64 (a : Nat) (ha : a < 9223372036854775808) : (BitVec.ofInt 64 (a : Int)).toNat = a := by
  rw [BitVec.ofInt_natCast, BitVec.toNat_ofNat]; exact Nat.mod_eq_of_lt (by omega)
theorem ofInt8 (a : Nat) (ha : a < 256) : (BitVec.ofInt 8 (a : Int)).toNat = a := by
  rw [BitVec.ofInt_natCast, BitVec.toNat_ofNat]; exact Nat.mod_eq_of_lt (by omega)
theorem or64 (a b : Nat) (ha : a < 9223372036854775808) (hb : b < 9223372036854775808) : bits .or .i64 (a : Int) (b : Int) = ((a ||| b : Nat) : Int) := by
  have hx : a ||| b < 2 ^ 63 := Nat.or_lt_two_pow (by omega) (by omega)
  show IntKind.i64.wrap ((BitVec.ofInt 64 (a : Int) ||| BitVec.ofInt 64 (b : Int)).toNat : Int) = _
  rw [BitVec.toNat_or, ofInt64 a ha, ofInt64 b hb, IntKind.wrap_i64]
  omega
theorem and8 (a b : Nat) (ha : a < 256) (hb : b < 256) : bits .and .u8 (a : Int) (b : Int) = ((a &&& b : Nat) : Int) := by
  have hx : a &&& b < 2 ^ 8 := Nat.and_lt_two_pow _ (by omega)
  show IntKind.u8.wrap ((BitVec.ofInt 8 (a : Int) &&& BitVec.ofInt 8 (b : Int)).toNat : Int) = _
  rw [BitVec.toNat_and, ofInt8 a ha, ofInt8 b hb]
  simp [IntKind.wrap, IntKind.bits, IntKind.signed]
  omega
theorem or_add (x n k : Nat) (h : n < 2 ^ k) : n ||| x * 2 ^ k = n + 2 ^ k * x := by
  have := Nat.shiftLeft_add_eq_or_of_lt h x
  rw [Nat.shiftLeft_eq] at this
  rw [Nat.or_comm, ← this, Nat.mul_comm]
  omega
theorem and127 (a : Nat) : a &&& 127 = a % 128 := Nat.and_two_pow_sub_one_eq_mod a 7

/-! ### numbers as bytes -/
def digs : Nat → Int → List Int
  | 0, n => [n]
  | f + 1, n => if n < 128 then [n] else (128 + n % 128) :: digs f (n / 128)
def mNumber (n : Int) : ByteArray × Int := if n < 0 ∨ 1099511627776 < n then (emp, 2) else (bstr (digs 5 n), 0)
theorem digs_small (f : Nat) (m : Int) (h : m < 128) : digs f m = [m] := by cases f <;> simp [digs, h]
theorem digs_big (f : Nat) (m : Int) (h : 128 ≤ m) : digs (f + 1) m = (128 + m % 128) :: digs f (m / 128) := by
  simp only [digs]
  rw [if_neg (by omega)]
/-- what holds in the middle of writing a number -/
structure NumIn (n : Int) (done : List Int) (m : Int) (f : Nat) : Prop where
  eq : done ++ digs f m = digs 5 n
  lo : 0 ≤ m
  hi : m ≤ 1099511627776
  pw : m < 128 * 128 ^ f
  len : done.length + f = 5
theorem NumIn.start {n : Int} (h0 : 0 ≤ n) (h1 : n ≤ 1099511627776) : NumIn n [] n 5 := ⟨rfl, h0, h1, by omega, rfl⟩
theorem NumIn.step {n : Int} {done : List Int} {m : Int} {f : Nat} (h : NumIn n done m f) (hm : 128 ≤ m) : 0 < f ∧ NumIn n (done ++ [128 + m % 128]) (m / 128) (f - 1) := by
  obtain ⟨h1, h2, h3, h4, h5⟩ := h
  cases f with
  | zero => omega
  | succ f =>
    refine ⟨by omega, ?_, by omega, by omega, ?_, by simp; omega⟩
    · rw [digs_big f m hm] at h1
      simpa using h1
    · simp only [Nat.add_sub_cancel]
      rw [Int.pow_succ] at h4
      omega
theorem NumIn.done {n : Int} {done : List Int} {m : Int} {f : Nat} (h : NumIn n done m f) (hm : m < 128) : done ++ [m] = digs 5 n := by rw [← h.eq, digs_small f m hm]
def mText (s : ByteArray) : ByteArray × Int := if 5000 < s.size then (emp, 1) else ((mNumber (s.size : Int)).1 ++ s, 0)

/-! ### numbers out of bytes -/
def rd (s : ByteArray) : Nat → Nat → Int → Int × ByteArray × Int
  | 0, _, _ => (0, emp, 4)
  | f + 1, i, n =>
    if s.size = i then (0, emp, 5) else
    if (s.data.getD i 0).toNat < 128 then
      (if ((s.data.getD i 0).toNat = 0 ∧ 0 < i) ∨ 1099511627776 < n + 128 ^ i * (((s.data.getD i 0).toNat : Int) % 128) then (0, emp, 4) else (n + 128 ^ i * (((s.data.getD i 0).toNat : Int) % 128), s.extract (i + 1) s.size, 0))
    else rd s f (i + 1) (n + 128 ^ i * (((s.data.getD i 0).toNat : Int) % 128))
def mRead (s : ByteArray) : Int × ByteArray × Int := rd s 6 0 0
structure RdIn (s : ByteArray) (i : Nat) (n : Int) : Prop where
  eq : rd s (6 - i) i n = mRead s
  le : i ≤ 6
  sz : i ≤ s.size
  lo : 0 ≤ n
  hi : n < 128 ^ i
theorem RdIn.start (s : ByteArray) : RdIn s 0 0 := ⟨rfl, by omega, by omega, by omega, by decide⟩
theorem pow6 (i : Nat) (h : i < 6) : (128 : Int) ^ i ≤ 128 ^ 5 ∧ 0 < (128 : Int) ^ i := by
  match i, h with
  | 0, _ => decide
  | 1, _ => decide
  | 2, _ => decide
  | 3, _ => decide
  | 4, _ => decide
  | 5, _ => decide
theorem RdIn.step {s : ByteArray} {i : Nat} {n : Int} (h : RdIn s i n) (hi : i < 6) (hs : i < s.size) (hb : 128 ≤ (s.data.getD i 0).toNat) : RdIn s (i + 1) (n + 128 ^ i * (((s.data.getD i 0).toNat : Int) % 128)) := by
  obtain ⟨h1, h2, h3, h4, h5⟩ := h
  have hp := pow6 i hi
  refine ⟨?_, by omega, by omega, ?_, ?_⟩
  · rw [← h1, show 6 - i = (6 - (i + 1)) + 1 by omega]
    simp only [rd]
    rw [if_neg (by omega), if_neg (by omega)]
  · have : 0 ≤ (128 : Int) ^ i * (((s.data.getD i 0).toNat : Int) % 128) := Int.mul_nonneg (Int.le_of_lt hp.2) (by omega)
    omega
  · have h6 : (128 : Int) ^ i * (((s.data.getD i 0).toNat : Int) % 128) ≤ 128 ^ i * 127 := Int.mul_le_mul_of_nonneg_left (by omega) (Int.le_of_lt hp.2)
    rw [Int.pow_succ]
    omega
theorem RdIn.short {s : ByteArray} {i : Nat} {n : Int} (h : RdIn s i n) (hi : i < 6) (hs : i = s.size) : mRead s = (0, emp, 5) := by
  rw [← h.eq, show 6 - i = (6 - (i + 1)) + 1 by omega]
  simp only [rd]
  rw [if_pos hs.symm]
theorem RdIn.out {s : ByteArray} {i : Nat} {n : Int} (h : RdIn s i n) (hi : 6 ≤ i) : mRead s = (0, emp, 4) := by
  rw [← h.eq, show 6 - i = 0 by omega]
  rfl
theorem RdIn.last {s : ByteArray} {i : Nat} {n : Int} (h : RdIn s i n) (hi : i < 6) (hs : i < s.size) (hb : (s.data.getD i 0).toNat < 128) :
    mRead s = if ((s.data.getD i 0).toNat = 0 ∧ 0 < i) ∨ 1099511627776 < n + 128 ^ i * (((s.data.getD i 0).toNat : Int) % 128) then (0, emp, 4) else (n + 128 ^ i * (((s.data.getD i 0).toNat : Int) % 128), s.extract (i + 1) s.size, 0) := by
  rw [← h.eq, show 6 - i = (6 - (i + 1)) + 1 by omega]
  simp only [rd]
  rw [if_neg (by omega), if_pos hb]
/-- the program's own step -/
theorem or_shift (s : ByteArray) (i : Nat) (n : Int) (h0 : 0 ≤ n) (h1 : n < 128 ^ i) (hi : i < 6) :
    bits .or .i64 n (IntKind.i64.wrap (bits .and .u8 ((s.data.getD i 0).toNat : Int) 127 * 2 ^ ((7 * (i : Int))).toNat)) = n + 128 ^ i * (((s.data.getD i 0).toNat : Int) % 128) := by
  obtain ⟨a, rfl⟩ := Int.eq_ofNat_of_zero_le h0
  generalize hb : (s.data.getD i 0).toNat = b
  have hb2 : b < 256 := by rw [← hb]; exact (s.data.getD i 0).toNat_lt
  have e1 : bits .and .u8 (b : Int) 127 = ((b % 128 : Nat) : Int) := by
    have := and8 b 127 hb2 (by omega)
    rw [and127] at this
    exact this
  rw [e1, show (7 * (i : Int)).toNat = 7 * i by omega]
  have hpow : (128 : Nat) ^ i = 2 ^ (7 * i) := by rw [Nat.pow_mul]
  have hpow2 : (128 : Int) ^ i = ((2 ^ (7 * i) : Nat) : Int) := by rw [← hpow]; simp
  have hle : 2 ^ (7 * i) ≤ 2 ^ 35 := Nat.pow_le_pow_right (by omega) (by omega)
  have ha : a < 2 ^ (7 * i) := by rw [hpow2] at h1; omega
  have e2 : ((b % 128 : Nat) : Int) * 2 ^ (7 * i) = ((b % 128 * 2 ^ (7 * i) : Nat) : Int) := by simp
  have hlt : b % 128 * 2 ^ (7 * i) ≤ 127 * 2 ^ 35 := Nat.mul_le_mul (by omega) hle
  rw [e2, show IntKind.i64.wrap ((b % 128 * 2 ^ (7 * i) : Nat) : Int) = ((b % 128 * 2 ^ (7 * i) : Nat) : Int) from wrap64_id ⟨by omega, by omega⟩]
  rw [or64 a _ (by omega) (by omega), or_add _ _ _ ha, hpow2]
  simp
theorem and127_bd (b : UInt8) : 0 ≤ bits .and .u8 (b.toNat : Int) 127 ∧ bits .and .u8 (b.toNat : Int) 127 ≤ 127 := by
  have h := and8 b.toNat 127 b.toNat_lt (by omega)
  rw [and127] at h
  have h2 : bits .and .u8 (b.toNat : Int) 127 = ((b.toNat % 128 : Nat) : Int) := h
  omega
theorem unit_bd (b : UInt8) (i : Nat) (h : i ≤ 6) : 0 ≤ (128 : Int) ^ i * ((b.toNat : Int) % 128) ∧ (128 : Int) ^ i * ((b.toNat : Int) % 128) ≤ 128 ^ i * 127 ∧ 1 ≤ (128 : Int) ^ i ∧ (128 : Int) ^ i ≤ 4398046511104 := by
  have hp : 0 < (128 : Int) ^ i ∧ (128 : Int) ^ i ≤ 4398046511104 := by
    match i, h with
    | 0, _ => decide
    | 1, _ => decide
    | 2, _ => decide
    | 3, _ => decide
    | 4, _ => decide
    | 5, _ => decide
    | 6, _ => decide
  exact ⟨Int.mul_nonneg (Int.le_of_lt hp.1) (by omega), Int.mul_le_mul_of_nonneg_left (by omega) (Int.le_of_lt hp.1), hp.1, hp.2⟩
/-- the reference's own unit -/
def mTell (s : ByteArray) : ByteArray × ByteArray × Int :=
  if (mRead s).2.2 ≠ 0 then (emp, emp, (mRead s).2.2) else
  if 5000 < (mRead s).1 then (emp, emp, 1) else
  if ((mRead s).2.1.size : Int) < (mRead s).1 then (emp, emp, 5) else
  ((mRead s).2.1.extract 0 (mRead s).1.toNat, (mRead s).2.1.extract (mRead s).1.toNat (mRead s).2.1.size, 0)
theorem mRead_bd (s : ByteArray) : 0 ≤ (mRead s).1 ∧ (mRead s).1 ≤ 1099511627776 ∧ ((mRead s).2.2 = 0 ∨ (mRead s).2.2 = 4 ∨ (mRead s).2.2 = 5) ∧ (mRead s).2.1.size ≤ s.size := by
  have key : ∀ (f i : Nat) (n : Int), 0 ≤ n → i + f = 6 → 0 ≤ (rd s f i n).1 ∧ (rd s f i n).1 ≤ 1099511627776 ∧ ((rd s f i n).2.2 = 0 ∨ (rd s f i n).2.2 = 4 ∨ (rd s f i n).2.2 = 5) ∧ (rd s f i n).2.1.size ≤ s.size := by
    intro f
    induction f with
    | zero => intro i n _ _; simp [rd, emp_size]
    | succ f ih =>
      intro i n hn hi
      have hp := pow6 i (by omega)
      have h6 : 0 ≤ (128 : Int) ^ i * (((s.data.getD i 0).toNat : Int) % 128) := Int.mul_nonneg (Int.le_of_lt hp.2) (by omega)
      simp only [rd]
      split
      · simp [emp_size]
      · split
        · split
          · simp [emp_size]
          · rename_i h7
            refine ⟨by show 0 ≤ n + _; omega, by show n + _ ≤ _; omega, by simp, ?_⟩
            show (s.extract (i + 1) s.size).size ≤ s.size
            simp
        · exact ih (i + 1) _ (by omega) (by omega)
  exact key 6 0 0 (by omega) rfl
end Go.Proofs.YtbjakddkfgjkaaaGreat.Fw

namespace Go.Proofs.YtbjakddkfgjkaaaGreat.Fw
open Go.RowKit

structure DOp where
  kind : Int
  a : ByteArray
  b : ByteArray
  n : Int
  deriving Inhabited
instance : Lay DOp where
  sub B w x := x.a.size ≤ 9223372036854775807 ∧ x.b.size ≤ 9223372036854775807
  stay := fun {B w w' x} hs ⟨h0, h1⟩ => ⟨h0, h1⟩
  wide := fun {B B' w x} hs ⟨h0, h1⟩ => ⟨h0, h1⟩
  ok x := x.a.size ≤ 9223372036854775807 ∧ x.b.size ≤ 9223372036854775807
  small x := True
  okof := fun {B w x} ⟨h0, h1⟩ => ⟨h0, h1⟩
  size := 4
  bytes := 48
  pos := by decide
  cells x := [.int .i64 x.kind, .string x.a, .string x.b, .int .i64 x.n]
  len _ := rfl
  one _ := rfl
abbrev DOp.val (x : DOp) : Value := .agg #[.int .i64 x.kind, .string x.a, .string x.b, .int .i64 x.n]
structure DReply where
  code : Int
  n : Int
  text : ByteArray
  deriving Inhabited
instance : Lay DReply where
  sub B w x := x.text.size ≤ 9223372036854775807
  stay := fun {B w w' x} hs h0 => h0
  wide := fun {B B' w x} hs h0 => h0
  ok x := x.text.size ≤ 9223372036854775807
  small x := True
  okof := fun {B w x} h0 => h0
  size := 3
  bytes := 32
  pos := by decide
  cells x := [.int .i64 x.code, .int .i64 x.n, .string x.text]
  len _ := rfl
  one _ := rfl
abbrev DReply.val (x : DReply) : Value := .agg #[.int .i64 x.code, .int .i64 x.n, .string x.text]
structure DLock where
  name : ByteArray
  holder : Int
  fence : Int
  line : List Int
  deriving Inhabited
structure CLock where
  name : ByteArray
  holder : Int
  fence : Int
  line : Sl Int
  deriving Inhabited
def CLock.abs (x : CLock) : DLock := { name := x.name, holder := x.holder, fence := x.fence, line := x.line.xs }
instance : Lay CLock where
  sub B w x := x.name.size ≤ 9223372036854775807 ∧ x.line.rd B w
  stay := fun {B w w' x} hs ⟨h0, h1⟩ => ⟨h0, Sl.rd.stay h1 hs⟩
  wide := fun {B B' w x} hs ⟨h0, h1⟩ => ⟨h0, Sl.rd.wide h1 hs⟩
  ok x := x.name.size ≤ 9223372036854775807 ∧ x.line.ok
  small x := Rds.small x.line
  okof := fun {B w x} ⟨h0, h1⟩ => ⟨h0, Sl.rd.ok h1⟩
  size := 4
  bytes := 56
  pos := by decide
  cells x := [.string x.name, .int .i64 x.holder, .int .i64 x.fence, .slice x.line.A x.line.n x.line.c]
  len _ := rfl
  one _ := rfl
abbrev CLock.val (x : CLock) : Value := .agg #[.string x.name, .int .i64 x.holder, .int .i64 x.fence, .slice x.line.A x.line.n x.line.c]
structure DPair where
  name : ByteArray
  value : ByteArray
  version : Int
  deriving Inhabited
instance : Lay DPair where
  sub B w x := x.name.size ≤ 9223372036854775807 ∧ x.value.size ≤ 9223372036854775807
  stay := fun {B w w' x} hs ⟨h0, h1⟩ => ⟨h0, h1⟩
  wide := fun {B B' w x} hs ⟨h0, h1⟩ => ⟨h0, h1⟩
  ok x := x.name.size ≤ 9223372036854775807 ∧ x.value.size ≤ 9223372036854775807
  small x := True
  okof := fun {B w x} ⟨h0, h1⟩ => ⟨h0, h1⟩
  size := 3
  bytes := 40
  pos := by decide
  cells x := [.string x.name, .string x.value, .int .i64 x.version]
  len _ := rfl
  one _ := rfl
abbrev DPair.val (x : DPair) : Value := .agg #[.string x.name, .string x.value, .int .i64 x.version]
structure DCommand where
  kind : Int
  client : Int
  session : Int
  seq : Int
  acked : Int
  op : DOp
  deriving Inhabited
instance : Lay DCommand where
  sub B w x := x.op.a.size ≤ 9223372036854775807 ∧ x.op.b.size ≤ 9223372036854775807
  stay := fun {B w w' x} hs ⟨h0, h1⟩ => ⟨h0, h1⟩
  wide := fun {B B' w x} hs ⟨h0, h1⟩ => ⟨h0, h1⟩
  ok x := x.op.a.size ≤ 9223372036854775807 ∧ x.op.b.size ≤ 9223372036854775807
  small x := True
  okof := fun {B w x} ⟨h0, h1⟩ => ⟨h0, h1⟩
  size := 9
  bytes := 88
  pos := by decide
  cells x := [.int .i64 x.kind, .int .i64 x.client, .int .i64 x.session, .int .i64 x.seq, .int .i64 x.acked, .int .i64 x.op.kind, .string x.op.a, .string x.op.b, .int .i64 x.op.n]
  len _ := rfl
  one _ := rfl
abbrev DCommand.val (x : DCommand) : Value := .agg #[.int .i64 x.kind, .int .i64 x.client, .int .i64 x.session, .int .i64 x.seq, .int .i64 x.acked, .int .i64 x.op.kind, .string x.op.a, .string x.op.b, .int .i64 x.op.n]
structure DKept where
  seq : Int
  reply : DReply
  deriving Inhabited
instance : Lay DKept where
  sub B w x := x.reply.text.size ≤ 9223372036854775807
  stay := fun {B w w' x} hs h0 => h0
  wide := fun {B B' w x} hs h0 => h0
  ok x := x.reply.text.size ≤ 9223372036854775807
  small x := True
  okof := fun {B w x} h0 => h0
  size := 4
  bytes := 40
  pos := by decide
  cells x := [.int .i64 x.seq, .int .i64 x.reply.code, .int .i64 x.reply.n, .string x.reply.text]
  len _ := rfl
  one _ := rfl
abbrev DKept.val (x : DKept) : Value := .agg #[.int .i64 x.seq, .int .i64 x.reply.code, .int .i64 x.reply.n, .string x.reply.text]
structure DSession where
  client : Int
  id : Int
  acked : Int
  last : Int
  replies : List DKept
  deriving Inhabited
structure CSession where
  client : Int
  id : Int
  acked : Int
  last : Int
  replies : Sl DKept
  deriving Inhabited
def CSession.abs (x : CSession) : DSession := { client := x.client, id := x.id, acked := x.acked, last := x.last, replies := x.replies.xs }
instance : Lay CSession where
  sub B w x := x.replies.rd B w
  stay := fun {B w w' x} hs h0 => Sl.rd.stay h0 hs
  wide := fun {B B' w x} hs h0 => Sl.rd.wide h0 hs
  ok x := x.replies.ok
  small x := Rds.small x.replies
  okof := fun {B w x} h0 => Sl.rd.ok h0
  size := 5
  bytes := 56
  pos := by decide
  cells x := [.int .i64 x.client, .int .i64 x.id, .int .i64 x.acked, .int .i64 x.last, .slice x.replies.A x.replies.n x.replies.c]
  len _ := rfl
  one _ := rfl
abbrev CSession.val (x : CSession) : Value := .agg #[.int .i64 x.client, .int .i64 x.id, .int .i64 x.acked, .int .i64 x.last, .slice x.replies.A x.replies.n x.replies.c]
structure DState where
  index : Int
  locks : List DLock
  pairs : List DPair
  sessions : List DSession
  deriving Inhabited
structure CState where
  index : Int
  locks : Sl CLock
  pairs : Sl DPair
  sessions : Sl CSession
  deriving Inhabited
def CState.abs (x : CState) : DState := { index := x.index, locks := x.locks.xs.map CLock.abs, pairs := x.pairs.xs, sessions := x.sessions.xs.map CSession.abs }
instance : Lay CState where
  sub B w x := x.locks.rd B w ∧ x.pairs.rd B w ∧ x.sessions.rd B w
  stay := fun {B w w' x} hs ⟨h0, h1, h2⟩ => ⟨Sl.rd.stay h0 hs, Sl.rd.stay h1 hs, Sl.rd.stay h2 hs⟩
  wide := fun {B B' w x} hs ⟨h0, h1, h2⟩ => ⟨Sl.rd.wide h0 hs, Sl.rd.wide h1 hs, Sl.rd.wide h2 hs⟩
  ok x := x.locks.ok ∧ x.pairs.ok ∧ x.sessions.ok
  small x := Rds.small x.locks ∧ Rds.small x.pairs ∧ Rds.small x.sessions
  okof := fun {B w x} ⟨h0, h1, h2⟩ => ⟨Sl.rd.ok h0, Sl.rd.ok h1, Sl.rd.ok h2⟩
  size := 4
  bytes := 80
  pos := by decide
  cells x := [.int .i64 x.index, .slice x.locks.A x.locks.n x.locks.c, .slice x.pairs.A x.pairs.n x.pairs.c, .slice x.sessions.A x.sessions.n x.sessions.c]
  len _ := rfl
  one _ := rfl
abbrev CState.val (x : CState) : Value := .agg #[.int .i64 x.index, .slice x.locks.A x.locks.n x.locks.c, .slice x.pairs.A x.pairs.n x.pairs.c, .slice x.sessions.A x.sessions.n x.sessions.c]
structure DLog where
  base : Int
  entries : List ByteArray
  deriving Inhabited
structure CLog where
  base : Int
  entries : Sl ByteArray
  deriving Inhabited
def CLog.abs (x : CLog) : DLog := { base := x.base, entries := x.entries.xs }
instance : Lay CLog where
  sub B w x := x.entries.rd B w
  stay := fun {B w w' x} hs h0 => Sl.rd.stay h0 hs
  wide := fun {B B' w x} hs h0 => Sl.rd.wide h0 hs
  ok x := x.entries.ok
  small x := Rds.small x.entries
  okof := fun {B w x} h0 => Sl.rd.ok h0
  size := 2
  bytes := 32
  pos := by decide
  cells x := [.int .i64 x.base, .slice x.entries.A x.entries.n x.entries.c]
  len _ := rfl
  one _ := rfl
abbrev CLog.val (x : CLog) : Value := .agg #[.int .i64 x.base, .slice x.entries.A x.entries.n x.entries.c]
structure DReplica where
  log : DLog
  snap : ByteArray
  state : DState
  deriving Inhabited
structure CReplica where
  log : CLog
  snap : ByteArray
  state : CState
  deriving Inhabited
def CReplica.abs (x : CReplica) : DReplica := { log := x.log.abs, snap := x.snap, state := x.state.abs }
instance : Lay CReplica where
  sub B w x := x.snap.size ≤ 9223372036854775807 ∧ x.log.entries.rd B w ∧ x.state.locks.rd B w ∧ x.state.pairs.rd B w ∧ x.state.sessions.rd B w
  stay := fun {B w w' x} hs ⟨h0, h1, h2, h3, h4⟩ => ⟨h0, Sl.rd.stay h1 hs, Sl.rd.stay h2 hs, Sl.rd.stay h3 hs, Sl.rd.stay h4 hs⟩
  wide := fun {B B' w x} hs ⟨h0, h1, h2, h3, h4⟩ => ⟨h0, Sl.rd.wide h1 hs, Sl.rd.wide h2 hs, Sl.rd.wide h3 hs, Sl.rd.wide h4 hs⟩
  ok x := x.snap.size ≤ 9223372036854775807 ∧ x.log.entries.ok ∧ x.state.locks.ok ∧ x.state.pairs.ok ∧ x.state.sessions.ok
  small x := Rds.small x.log.entries ∧ Rds.small x.state.locks ∧ Rds.small x.state.pairs ∧ Rds.small x.state.sessions
  okof := fun {B w x} ⟨h0, h1, h2, h3, h4⟩ => ⟨h0, Sl.rd.ok h1, Sl.rd.ok h2, Sl.rd.ok h3, Sl.rd.ok h4⟩
  size := 7
  bytes := 128
  pos := by decide
  cells x := [.int .i64 x.log.base, .slice x.log.entries.A x.log.entries.n x.log.entries.c, .string x.snap, .int .i64 x.state.index, .slice x.state.locks.A x.state.locks.n x.state.locks.c, .slice x.state.pairs.A x.state.pairs.n x.state.pairs.c, .slice x.state.sessions.A x.state.sessions.n x.state.sessions.c]
  len _ := rfl
  one _ := rfl
abbrev CReplica.val (x : CReplica) : Value := .agg #[.int .i64 x.log.base, .slice x.log.entries.A x.log.entries.n x.log.entries.c, .string x.snap, .int .i64 x.state.index, .slice x.state.locks.A x.state.locks.n x.state.locks.c, .slice x.state.pairs.A x.state.pairs.n x.state.pairs.c, .slice x.state.sessions.A x.state.sessions.n x.state.sessions.c]
structure DWait where
  seq : Int
  op : DOp
  deriving Inhabited
instance : Lay DWait where
  sub B w x := x.op.a.size ≤ 9223372036854775807 ∧ x.op.b.size ≤ 9223372036854775807
  stay := fun {B w w' x} hs ⟨h0, h1⟩ => ⟨h0, h1⟩
  wide := fun {B B' w x} hs ⟨h0, h1⟩ => ⟨h0, h1⟩
  ok x := x.op.a.size ≤ 9223372036854775807 ∧ x.op.b.size ≤ 9223372036854775807
  small x := True
  okof := fun {B w x} ⟨h0, h1⟩ => ⟨h0, h1⟩
  size := 5
  bytes := 56
  pos := by decide
  cells x := [.int .i64 x.seq, .int .i64 x.op.kind, .string x.op.a, .string x.op.b, .int .i64 x.op.n]
  len _ := rfl
  one _ := rfl
abbrev DWait.val (x : DWait) : Value := .agg #[.int .i64 x.seq, .int .i64 x.op.kind, .string x.op.a, .string x.op.b, .int .i64 x.op.n]
structure DCustomer where
  id : Int
  session : Int
  next : Int
  waits : List DWait
  deriving Inhabited
structure CCustomer where
  id : Int
  session : Int
  next : Int
  waits : Sl DWait
  deriving Inhabited
def CCustomer.abs (x : CCustomer) : DCustomer := { id := x.id, session := x.session, next := x.next, waits := x.waits.xs }
instance : Lay CCustomer where
  sub B w x := x.waits.rd B w
  stay := fun {B w w' x} hs h0 => Sl.rd.stay h0 hs
  wide := fun {B B' w x} hs h0 => Sl.rd.wide h0 hs
  ok x := x.waits.ok
  small x := Rds.small x.waits
  okof := fun {B w x} h0 => Sl.rd.ok h0
  size := 4
  bytes := 48
  pos := by decide
  cells x := [.int .i64 x.id, .int .i64 x.session, .int .i64 x.next, .slice x.waits.A x.waits.n x.waits.c]
  len _ := rfl
  one _ := rfl
abbrev CCustomer.val (x : CCustomer) : Value := .agg #[.int .i64 x.id, .int .i64 x.session, .int .i64 x.next, .slice x.waits.A x.waits.n x.waits.c]
structure DMail where
  client : Int
  seq : Int
  reply : DReply
  deriving Inhabited
instance : Lay DMail where
  sub B w x := x.reply.text.size ≤ 9223372036854775807
  stay := fun {B w w' x} hs h0 => h0
  wide := fun {B B' w x} hs h0 => h0
  ok x := x.reply.text.size ≤ 9223372036854775807
  small x := True
  okof := fun {B w x} h0 => h0
  size := 5
  bytes := 48
  pos := by decide
  cells x := [.int .i64 x.client, .int .i64 x.seq, .int .i64 x.reply.code, .int .i64 x.reply.n, .string x.reply.text]
  len _ := rfl
  one _ := rfl
abbrev DMail.val (x : DMail) : Value := .agg #[.int .i64 x.client, .int .i64 x.seq, .int .i64 x.reply.code, .int .i64 x.reply.n, .string x.reply.text]
structure DAct where
  kind : Int
  c : Int
  r : Int
  k : Int
  op : DOp
  deriving Inhabited
instance : Lay DAct where
  sub B w x := x.op.a.size ≤ 9223372036854775807 ∧ x.op.b.size ≤ 9223372036854775807
  stay := fun {B w w' x} hs ⟨h0, h1⟩ => ⟨h0, h1⟩
  wide := fun {B B' w x} hs ⟨h0, h1⟩ => ⟨h0, h1⟩
  ok x := x.op.a.size ≤ 9223372036854775807 ∧ x.op.b.size ≤ 9223372036854775807
  small x := True
  okof := fun {B w x} ⟨h0, h1⟩ => ⟨h0, h1⟩
  size := 8
  bytes := 80
  pos := by decide
  cells x := [.int .i64 x.kind, .int .i64 x.c, .int .i64 x.r, .int .i64 x.k, .int .i64 x.op.kind, .string x.op.a, .string x.op.b, .int .i64 x.op.n]
  len _ := rfl
  one _ := rfl
abbrev DAct.val (x : DAct) : Value := .agg #[.int .i64 x.kind, .int .i64 x.c, .int .i64 x.r, .int .i64 x.k, .int .i64 x.op.kind, .string x.op.a, .string x.op.b, .int .i64 x.op.n]
end Go.Proofs.YtbjakddkfgjkaaaGreat.Fw

namespace Go.Proofs.YtbjakddkfgjkaaaGreat.Fw
open Go.RowKit
def nameBad (c : UInt8) : Bool := decide ((c.toNat : Int) < 97) || decide (122 < (c.toNat : Int))
def mName (s : ByteArray) : Bool := !decide (s = emp) && (decide ((s.size : Int) ≤ 6) && !(s.data.toList.any nameBad))
theorem size0 (s : ByteArray) : s.size = 0 ↔ s = emp := by
  constructor
  · intro h
    apply ByteArray.ext
    exact Array.eq_empty_of_size_eq_zero h
  · rintro rfl; rfl
theorem mName_bad {s : ByteArray} {i : Nat} (hi : i < s.size) (h : nameBad (s.data.getD i 0) = true) : mName s = false := by
  have h2 : s.data.toList.any nameBad = true := by
    rw [List.any_eq_true]
    refine ⟨s.data.getD i 0, ?_, h⟩
    have hi' : i < s.data.size := hi
    rw [Array.getD_eq_getD_getElem?, Array.getElem?_eq_getElem hi']
    simp
  unfold mName
  rw [h2]
  simp
theorem mName_good {s : ByteArray} (h : ∀ j, j < s.size → nameBad (s.data.getD j 0) = false) : inB (s.size : Int) 1 6 = mName s := by
  have h2 : s.data.toList.any nameBad = false := by
    rw [List.any_eq_false]
    intro x hx
    obtain ⟨j, hj, rfl⟩ := List.getElem_of_mem hx
    have hj' : j < s.data.size := by simpa using hj
    have := h j hj'
    rw [Array.getD_eq_getD_getElem?, Array.getElem?_eq_getElem hj'] at this
    simpa using this
  unfold mName inB
  rw [h2]
  by_cases h0 : s = emp
  · subst h0; rfl
  · have h1 : s.size ≠ 0 := fun h => h0 ((size0 s).1 h)
    have h3 : decide ((1 : Int) ≤ (s.size : Int)) = true := decide_eq_true (by omega)
    rw [h3]
    simp [h0]
end Go.Proofs.YtbjakddkfgjkaaaGreat.Fw

namespace Go.Proofs.YtbjakddkfgjkaaaGreat.Fw
open Go.RowKit
/-! ### locks and sessions in memory of their own -/
def lineR (e : Nat) (x : CLock) : Res := rowA e x.line.A x.line.c x.line.xs
def keptR (e : Nat) (x : CSession) : Res := rowA e x.replies.A x.replies.c x.replies.xs
def locksR (eL eI : Nat) (y : Sl CLock) : Res := allR [ownL (lineR eI) y.xs, rowA eL y.A y.c y.xs]
def sessR (eS eK : Nat) (y : Sl CSession) : Res := allR [ownL (keptR eK) y.xs, rowA eS y.A y.c y.xs]
theorem locksR_rd {eL eI : Nat} {y : Sl CLock} {w : World} (h : (locksR eL eI y).p w) (hn : ∀ x, x ∈ y.xs → x.name.size ≤ 9223372036854775807) : Sl.rd (· ∈ (locksR eL eI y).fp) w y := by
  have h1 : (ownL (lineR eI) y.xs).p w := h _ (.head _)
  have h2 : (rowA eL y.A y.c y.xs).p w := h _ (.tail _ (.head _))
  refine Rr h2 (fun b hb => mem_allR (.tail _ (.head _)) hb) fun x hx => ⟨hn x hx, ?_⟩
  exact Rr (h1 x hx) (fun b hb => mem_allR (.head _) (List.mem_flatMap.2 ⟨x, hx, hb⟩)) fun _ _ => trivial
theorem sessR_rd {eL eI : Nat} {y : Sl CSession} {w : World} (h : (sessR eL eI y).p w) (hn : ∀ x, x ∈ y.xs → ∀ k, k ∈ x.replies.xs → k.reply.text.size ≤ 9223372036854775807) : Sl.rd (· ∈ (sessR eL eI y).fp) w y := by
  have h1 : (ownL (keptR eI) y.xs).p w := h _ (.head _)
  have h2 : (rowA eL y.A y.c y.xs).p w := h _ (.tail _ (.head _))
  refine Rr h2 (fun b hb => mem_allR (.tail _ (.head _)) hb) fun x hx => ?_
  exact Rr (h1 x hx) (fun b hb => mem_allR (.head _) (List.mem_flatMap.2 ⟨x, hx, hb⟩)) fun k hk => hn x hx k hk
/-- names of a copy are no longer -/
theorem locks_names {s y : Sl CLock} {w : World} {B : Nat → Prop} (hs : s.rd B w) (h : y.xs.map CLock.abs = s.xs.map CLock.abs) : ∀ x, x ∈ y.xs → x.name.size ≤ 9223372036854775807 := fun x hx => by
  have h1 : x.abs ∈ s.xs.map CLock.abs := by rw [← h]; exact List.mem_map.2 ⟨x, hx, rfl⟩
  obtain ⟨z, hz, he⟩ := List.mem_map.1 h1
  have h2 := (hs.mem z hz).1
  have h3 : z.name = x.name := congrArg DLock.name he
  rwa [h3] at h2
theorem sess_texts {s y : Sl CSession} {w : World} {B : Nat → Prop} (hs : s.rd B w) (h : y.xs.map CSession.abs = s.xs.map CSession.abs) : ∀ x, x ∈ y.xs → ∀ k, k ∈ x.replies.xs → k.reply.text.size ≤ 9223372036854775807 := fun x hx k hk => by
  have h1 : x.abs ∈ s.xs.map CSession.abs := by rw [← h]; exact List.mem_map.2 ⟨x, hx, rfl⟩
  obtain ⟨z, hz, he⟩ := List.mem_map.1 h1
  have h2 : z.replies.rd B w := hs.mem z hz
  have h3 : z.replies.xs = x.replies.xs := congrArg DSession.replies he
  exact h2.mem k (by rw [h3]; exact hk)
theorem map_take_snoc {α β : Type} [Inhabited α] {s : Sl α} {f : α → β} {i : Nat} {L : List α} {x : α} (hi : i < s.n) (hL : L.map f = (s.xs.take i).map f) (hx : f x = f (s.at i)) : (L ++ [x]).map f = (s.xs.take (i + 1)).map f := by
  rw [← take_snoc hi, List.map_append, List.map_append, hL]
  simp [hx]
theorem perm3 {α : Type} (n : Nat) (a b c : α) : [a, b, c].Perm [c, a, b] := by
  have h : ([c] ++ [a, b]).Perm ([a, b] ++ [c]) := List.perm_append_comm
  exact h.symm
end Go.Proofs.YtbjakddkfgjkaaaGreat.Fw

namespace Go.Proofs.YtbjakddkfgjkaaaGreat.Fw
open Go.RowKit
def mOp (o : DOp) : Int :=
  if o.kind < 1 ∨ 6 < o.kind then 3 else
  if mName o.a = false ∨ (¬ o.kind = 5 ∧ ¬ o.b = emp) then 4 else
  if 12 < (o.b.size : Int) then 1 else
  if (o.kind = 5 ∧ (o.n < 1 ∨ 1073741824 < o.n)) ∨ (¬ o.kind = 5 ∧ ¬ o.n = 0) then 2 else 0
def mCmd (c : DCommand) : Int :=
  if c.kind < 1 ∨ 3 < c.kind then 3 else
  if c.client < 1 ∨ 9 < c.client then 2 else
  if c.kind = 2 then
    if c.session < 1 ∨ 1073741824 < c.session ∨ c.seq < 1 ∨ 1048576 < c.seq ∨ c.acked < 0 ∨ c.seq ≤ c.acked then 2 else mOp c.op
  else if c.session = 0 ∧ c.seq = 0 ∧ c.acked = 0 ∧ c.op.kind = 0 ∧ c.op.a = emp ∧ c.op.b = emp ∧ c.op.n = 0 then 0 else 4
end Go.Proofs.YtbjakddkfgjkaaaGreat.Fw

namespace Go.Proofs.YtbjakddkfgjkaaaGreat.Fw
open Go.RowKit
theorem bl_total : ∀ x y : List UInt8, (Op.bytesLess x y || decide (x = y)) = !Op.bytesLess y x
  | [], [] => rfl
  | [], b :: y => rfl
  | a :: x, [] => rfl
  | a :: x, b :: y => by
    have ih := bl_total x y
    simp only [Op.bytesLess]
    rcases Nat.lt_trichotomy a.toNat b.toNat with h | h | h
    · have h1 : a < b := h
      have h2 : ¬ b < a := fun h3 => absurd (show b.toNat < a.toNat from h3) (by omega)
      have h3 : ¬ b = a := fun e => by subst e; omega
      simp [h1, h2, h3]
    · have h1 : a = b := UInt8.toNat_inj.1 h
      subst h1
      have h2 : ¬ a < a := fun h3 => absurd (show a.toNat < a.toNat from h3) (by omega)
      simp only [h2, decide_false, Bool.false_or, beq_self_eq_true, Bool.true_and, List.cons.injEq, true_and]
      exact ih
    · have h1 : b < a := h
      have h2 : ¬ a < b := fun h3 => absurd (show a.toNat < b.toNat from h3) (by omega)
      have h3 : ¬ a = b := fun e => by subst e; omega
      simp [h1, h2, h3]
theorem bytes_total (s t : ByteArray) : (Op.bytesLess s.toList t.toList || decide (s = t)) = !Op.bytesLess t.toList s.toList := by
  have h : decide (s = t) = decide (s.toList = t.toList) := by
    by_cases e : s = t
    · subst e; simp
    · have : ¬ s.toList = t.toList := fun h => e (by
        rw [ByteArray.toList_eq, ByteArray.toList_eq] at h
        exact ByteArray.ext (Array.toList_inj.1 h))
      simp [e, this]
  rw [h]
  exact bl_total _ _
def firstF (f : Nat → Int) : Nat → Nat → Int
  | 0, _ => 0
  | k + 1, i => if f i = 0 then firstF f k (i + 1) else f i
theorem firstF_step {f : Nat → Int} {n i : Nat} (hi : i < n) (h : f i = 0) : firstF f (n - i) i = firstF f (n - (i + 1)) (i + 1) := by
  rw [show n - i = (n - (i + 1)) + 1 by omega]
  simp [firstF, h]
theorem firstF_here {f : Nat → Int} {n i : Nat} {e : Int} (hi : i < n) (h : f i = e) (he : ¬ e = 0) : firstF f (n - i) i = e := by
  rw [show n - i = (n - (i + 1)) + 1 by omega]
  simp [firstF, h, he]
theorem firstF_end {f : Nat → Int} {n i : Nat} (hi : n ≤ i) : firstF f (n - i) i = 0 := by
  rw [show n - i = 0 by omega]
  rfl
def pairF (l : List DPair) (i : Nat) : Int :=
  if mName (l.getD i default).name = false then 4 else
  if 12 < ((l.getD i default).value.size : Int) then 1 else
  if (l.getD i default).version < 1 ∨ 1073741824 < (l.getD i default).version then 2 else
  if 0 < i ∧ Op.bytesLess (l.getD (i - 1) default).name.toList (l.getD i default).name.toList = false then 14 else 0
def mPairs (l : List DPair) : Int := if 5 < l.length then 1 else firstF (pairF l) (l.length - 0) 0
end Go.Proofs.YtbjakddkfgjkaaaGreat.Fw

namespace Go.Proofs.YtbjakddkfgjkaaaGreat.Fw
open Go.RowKit
def custF (c : DCustomer) (i : Nat) : Int :=
  if (c.waits.getD i default).seq < 1 ∨ c.next ≤ (c.waits.getD i default).seq ∨ (0 < i ∧ (c.waits.getD i default).seq ≤ (c.waits.getD (i - 1) default).seq) ∨ (c.waits.getD 0 default).seq + 3 < (c.waits.getD i default).seq then 9 else mOp (c.waits.getD i default).op
def mCust (c : DCustomer) : Int :=
  if c.id < 1 ∨ 9 < c.id ∨ c.session < 0 ∨ 1073741824 < c.session ∨ c.next < 1 ∨ 1048577 < c.next then 2 else
  if 4 < c.waits.length ∨ (c.session = 0 ∧ 0 < c.waits.length) then 9 else firstF (custF c) (c.waits.length - 0) 0
end Go.Proofs.YtbjakddkfgjkaaaGreat.Fw

namespace Go.Proofs.YtbjakddkfgjkaaaGreat.Fw
open Go.RowKit
/-! ### commands as bytes -/
def encN (s : ByteArray) (l : List Int) : ByteArray := l.foldl (fun s n => s ++ (mNumber n).1) s
def encT (s : ByteArray) (l : List ByteArray) : ByteArray := l.foldl (fun s t => s ++ (mText t).1) s
def mEnc (c : DCommand) : ByteArray × Int :=
  if mCmd c = 0 then
    (if c.kind = 2 then encT (encN (bstr [c.kind % 256, c.client % 256]) [c.session, c.seq, c.acked, c.op.kind, c.op.n]) [c.op.a, c.op.b] else bstr [c.kind % 256, c.client % 256], 0)
  else (emp, mCmd c)
end Go.Proofs.YtbjakddkfgjkaaaGreat.Fw

