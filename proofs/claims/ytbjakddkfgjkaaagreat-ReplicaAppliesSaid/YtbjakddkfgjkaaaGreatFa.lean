/-
  A symbolic step for the operations of a region, sound for the model: states, quiet operations, the frame, and runs of operations.
  Conditions: none beyond those that each theorem states.
-/
import Derived.WalkKit
import Derived.ProofKit
import Derived.Orders
import Derived.KernelRfl
set_option linter.unusedVariables false
set_option linter.unusedSimpArgs false
namespace Go.Proofs.YtbjakddkfgjkaaaGreat.Fw
open Go.RowKit

/-! ### symbolic states -/
inductive SV where
  | v (x : Value)
  | p (i off : Nat)
  | s (i off n c : Nat)          -- a slice over a local block
  | fn (f : FuncId) (caps : List (Nat × Nat))
  deriving Inhabited

def adr (bs : List Nat) (i off : Nat) : Addr := ⟨bs.getD i 0, off, none⟩
def den (bs : List Nat) : SV → Value
  | .v x => x
  | .p i off => .pointer (some (adr bs i off))
  | .s i off n c => .slice (some (adr bs i off)) n c
  | .fn f caps => .func (.func f) #[] (caps.map fun c => Value.pointer (some (adr bs c.1 c.2))).toArray

abbrev Env := List (Nat × SV)
def get : Env → Nat → Option SV
  | [], _ => none
  | (t, x) :: r, u => bif Nat.beq t u then some x else get r u
def putE (e : Env) : Option Nat → SV → Env
  | none, _ => e
  | some t, x => (t, x) :: e
/-- only the slots named -/
def keepE : Env → List Nat → Env
  | [], _ => []
  | (t, x) :: r, l => bif l.any (Nat.beq t) then (t, x) :: keepE r l else keepE r l

structure Blk where
  ty : Nat
  cs : List SV
  deriving Inhabited

structure SS where
  env : Env
  loc : List Blk

def Fr (bs : List Nat) (e : Env) (a : Act) : Prop := a.defers = [] ∧ ∀ t x, get e t = some x → a.tmps.getD t undef = den bs x

theorem Fr.put {bs : List Nat} {e : Env} {a : Act} (h : Fr bs e a) (d : Option Nat) (x : SV) (hd : ∀ t, d = some t → t < a.tmps.size) : Fr bs (putE e d x) (a.put d (den bs x)) := by
  cases d with
  | none => exact h
  | some t =>
    refine ⟨h.1, fun u y hu => ?_⟩
    have ht := hd t rfl
    simp only [putE, get] at hu
    simp only [Act.put]
    cases hb : Nat.beq t u with
    | true =>
      have e1 : t = u := Nat.eq_of_beq_eq_true hb
      subst e1
      simp only [hb, cond_true] at hu
      injection hu with hu
      subst hu
      simp [Array.getD, ht]
    | false =>
      simp only [hb, cond_false] at hu
      have h2 : u ≠ t := fun e1 => by subst e1; rw [Nat.beq_refl] at hb; cases hb
      have := h.2 u y hu
      rw [← this]
      simp only [Array.getD_eq_getD_getElem?]
      rw [Array.getElem?_setIfInBounds_ne (Ne.symm h2)]

theorem get_keepE (e : Env) (l : List Nat) (u : Nat) (x : SV) (h : get (keepE e l) u = some x) : get e u = some x := by
  induction e with
  | nil => cases h
  | cons y r ih =>
    obtain ⟨s, z⟩ := y
    cases hk : l.any (Nat.beq s) with
    | true =>
      simp only [keepE, hk, cond_true, get] at h ⊢
      cases hb : Nat.beq s u with
      | true => simpa [hb] using h
      | false => simp only [hb, cond_false] at h ⊢; exact ih h
    | false =>
      simp only [keepE, hk, cond_false] at h
      have h1 := ih h
      simp only [get]
      cases hb : Nat.beq s u with
      | false => simpa using h1
      | true =>
        exfalso
        have e1 : s = u := Nat.eq_of_beq_eq_true hb
        subst e1
        clear ih h1 hb
        induction r with
        | nil => cases h
        | cons y r ih2 =>
          obtain ⟨s2, z2⟩ := y
          cases hk2 : l.any (Nat.beq s2) with
          | false => simp only [keepE, hk2, cond_false] at h; exact ih2 h
          | true =>
            simp only [keepE, hk2, cond_true, get] at h
            cases hb2 : Nat.beq s2 s with
            | true => rw [Nat.eq_of_beq_eq_true hb2, hk] at hk2; cases hk2
            | false => simp only [hb2, cond_false] at h; exact ih2 h
theorem Fr.keep {bs : List Nat} {e : Env} {a : Act} (h : Fr bs e a) (l : List Nat) : Fr bs (keepE e l) a :=
  ⟨h.1, fun u x hu => h.2 u x (get_keepE _ _ _ _ hu)⟩

/-- cells from an address on -/
def CellsAt (w : World) (a : Addr) (vs : List Value) : Prop := ∀ (j : Nat) (v : Value), vs[j]? = some v → w.cell? (a.add j) = some v

/-- the local blocks lie as they should -/
def LocOK (bs : List Nat) (loc : List Blk) (w : World) : Prop :=
  ∀ (i : Nat) (b : Blk), loc[i]? = some b → b.cs ≠ [] → w.heap[bs.getD i 0]? = some (.cells (b.cs.map (den bs)).toArray b.ty (0, 0))

def AllP : List Prop → Prop
  | [] => True
  | p :: r => p ∧ AllP r
theorem AllP_append {a b : List Prop} : AllP (a ++ b) ↔ AllP a ∧ AllP b := by
  induction a with
  | nil => simp [AllP]
  | cons p r ih => simp [AllP, ih, and_assoc]
def AllC (w : World) : List (Addr × List Value) → Prop
  | [] => True
  | x :: r => CellsAt w x.1 x.2 ∧ AllC w r
theorem AllC_append {w : World} {a b : List (Addr × List Value)} : AllC w (a ++ b) ↔ AllC w a ∧ AllC w b := by
  induction a with
  | nil => simp [AllC]
  | cons p r ih => simp [AllC, ih, and_assoc]

end Go.Proofs.YtbjakddkfgjkaaaGreat.Fw

namespace Go.Proofs.YtbjakddkfgjkaaaGreat.Fw
open Go.RowKit

inductive Hint where
  | no
  | ext (vs : List Value)        -- a load from outside: what lies there
  | idx (a : Addr) (j : Nat)     -- an index into a slice: its address, the index as a number
  | sidx (j : Nat)               -- an index into a string
  | sl (l h : Nat)               -- a slice expression's bounds
  | val (v : Value)              -- the value, by an equation of its own
  deriving Inhabited

def inR (x : Int) : Prop := -9223372036854775808 ≤ x ∧ x ≤ 9223372036854775807

abbrev QR := Option (SV × List Prop × List (Addr × List Value))

def ev (s : SS) : Operand → Option SV
  | .tmp t => get s.env t
  | .const v => some (.v v)
  | .global _ => none
  | .func f => some (.fn f [])

/-- integers, strings, bools -/
def binV (op : BinOp) : Value → Value → Option (Value × List Prop)
  | .int .i64 a, .int .i64 b =>
    match op with
    | .add => some (.int .i64 (a + b), [inR (a + b)])
    | .sub => some (.int .i64 (a - b), [inR (a - b)])
    | .mul => some (.int .i64 (a * b), [inR (a * b)])
    | .quo => some (.int .i64 (a / b), [0 ≤ a, a ≤ 9223372036854775807, 0 < b])
    | .rem => some (.int .i64 (a % b), [0 ≤ a, 0 < b])
    | .and => some (.int .i64 (bits .and .i64 a b), [])
    | .or => some (.int .i64 (bits .or .i64 a b), [])
    | .eql => some (.bool (decide (a = b)), [])
    | .neq => some (.bool (!decide (a = b)), [])
    | .lss => some (.bool (decide (a < b)), [])
    | .leq => some (.bool (decide (a ≤ b)), [])
    | .gtr => some (.bool (decide (b < a)), [])
    | .geq => some (.bool (decide (b ≤ a)), [])
    | .shl => some (.int .i64 (IntKind.i64.wrap (a * 2 ^ b.toNat)), [0 ≤ b, b ≤ 64])
    | .shr => some (.int .i64 (a / 2 ^ b.toNat), [0 ≤ b, b ≤ 64])
    | _ => none
  | .int .i64 a, .int .u64 b =>
    match op with
    | .shl => some (.int .i64 (IntKind.i64.wrap (a * 2 ^ b.toNat)), [0 ≤ b, b ≤ 64])
    | .shr => some (.int .i64 (a / 2 ^ b.toNat), [0 ≤ b, b ≤ 64])
    | _ => none
  | .int .u8 a, .int .u8 b =>
    match op with
    | .and => some (.int .u8 (bits .and .u8 a b), [])
    | .or => some (.int .u8 (bits .or .u8 a b), [])
    | .eql => some (.bool (decide (a = b)), [])
    | .neq => some (.bool (!decide (a = b)), [])
    | .lss => some (.bool (decide (a < b)), [])
    | .leq => some (.bool (decide (a ≤ b)), [])
    | .gtr => some (.bool (decide (b < a)), [])
    | .geq => some (.bool (decide (b ≤ a)), [])
    | _ => none
  | .string a, .string b =>
    match op with
    | .add => some (.string (a ++ b), [a.size + b.size ≤ 9223372036854775807])
    | .eql => some (.bool (decide (a = b)), [])
    | .neq => some (.bool (!decide (a = b)), [])
    | .lss => some (.bool (Op.bytesLess a.toList b.toList), [])
    | .geq => some (.bool (!Op.bytesLess a.toList b.toList), [])
    | .gtr => some (.bool (!(Op.bytesLess a.toList b.toList || decide (a = b))), [])
    | .leq => some (.bool (Op.bytesLess a.toList b.toList || decide (a = b)), [])
    | _ => none
  | _, _ => none

theorem wrap64_id {x : Int} (h : inR x) : IntKind.i64.wrap x = x := by
  unfold inR at h
  rw [IntKind.wrap_i64]
  omega

theorem toList_eq (a b : ByteArray) : (a.toList == b.toList) = decide (a = b) := by
  have h : a.toList = b.toList ↔ a = b := by
    rw [ByteArray.toList_eq, ByteArray.toList_eq]
    exact ⟨WideShapes.bytes_inj, by rintro rfl; rfl⟩
  by_cases e : a = b
  · simp [e]
  · simp [e, mt h.1 e]

theorem binV_sound (P : Program) (op : BinOp) (T : TypeId) (X Y : Operand) (x y v : Value) (obs : List Prop) (w : World) (h : binV op x y = some (v, obs)) (ho : AllP obs) :
    (do eqGuard op T X Y x y; binOp op T x y : Sem Value).run P w = .ok v w := by
  have hg : (eqGuard op T X Y x y).run P w = .ok () w := by
    unfold binV at h
    unfold eqGuard
    split at h <;> (try (cases h; done)) <;> cases op <;> simp
  rw [Sem.run_bind, hg]
  simp only [Result.andThen_ok]
  unfold binV at h
  split at h
  · rename_i a b
    cases op <;> simp only [Option.some.injEq, Prod.mk.injEq, reduceCtorEq] at h <;> obtain ⟨rfl, rfl⟩ := h <;> simp only [AllP, and_true] at ho
    case add => simp [binOp, Op.intArith, wrap64_id ho]
    case sub => simp [binOp, Op.intArith, wrap64_id ho]
    case mul => simp [binOp, Op.intArith, wrap64_id ho]
    case quo =>
      obtain ⟨h0, h1, h2⟩ := ho
      have hq : 0 ≤ a / b := Int.ediv_nonneg h0 (Int.le_of_lt h2)
      have hq2 : a / b ≤ a := Int.ediv_le_self b h0
      have : b ≠ 0 := by omega
      simp only [binOp, Op.intDiv, this, if_false, Int.tdiv_eq_ediv_of_nonneg h0]
      simp [wrap64_id (x := a / b) ⟨by omega, by omega⟩]
    case rem =>
      obtain ⟨h0, h2⟩ := ho
      have : b ≠ 0 := by omega
      simp [binOp, Op.intDiv, this, Int.tmod_eq_emod_of_nonneg h0]
    case and => simp [binOp]; rfl
    case or => simp [binOp]; rfl
    case shl => simp only [binOp]; rw [shift_shl _ _ _ _ ho.1 (by simpa [IntKind.bits] using ho.2)]; rfl
    case shr => simp only [binOp]; rw [shift_shr _ _ _ _ ho.1 (by simpa [IntKind.bits] using ho.2)]; rfl
    case eql => simp [binOp, Op.intCmp]; rfl
    case neq => simp [binOp, Op.intCmp]; rfl
    all_goals simp [binOp, Op.intCmp]
  · rename_i a b
    cases op <;> simp only [Option.some.injEq, Prod.mk.injEq, reduceCtorEq] at h <;> obtain ⟨rfl, rfl⟩ := h <;> simp only [AllP, and_true] at ho
    case shl => simp only [binOp]; rw [shift_shl _ _ _ _ ho.1 (by simpa [IntKind.bits] using ho.2)]; rfl
    case shr => simp only [binOp]; rw [shift_shr _ _ _ _ ho.1 (by simpa [IntKind.bits] using ho.2)]; rfl
  · rename_i a b
    cases op <;> simp only [Option.some.injEq, Prod.mk.injEq, reduceCtorEq] at h <;> obtain ⟨rfl, rfl⟩ := h
    case and => simp [binOp]; rfl
    case or => simp [binOp]; rfl
    case eql => simp [binOp, Op.intCmp]; rfl
    case neq => simp [binOp, Op.intCmp]; rfl
    all_goals simp [binOp, Op.intCmp]
  · rename_i a b
    cases op <;> simp only [Option.some.injEq, Prod.mk.injEq, reduceCtorEq] at h <;> obtain ⟨rfl, rfl⟩ := h <;> simp only [AllP, and_true] at ho
    case add =>
      simp [binOp, Op.stringOp]
      omega
    all_goals simp [binOp, Op.stringOp, toList_eq]
  · cases h

def isAggB (P : Program) (t : TypeId) : Bool :=
  match P.underlying t with
  | some (.struct _) | some (.array _ _) => true
  | _ => false
def valsOf : List SV → Option (List Value)
  | [] => some []
  | .v x :: r => match valsOf r with
    | some l => some (x :: l)
    | none => none
  | _ :: _ => none
def capsOf : List SV → Option (List (Nat × Nat))
  | [] => some []
  | .p i o :: r => match capsOf r with
    | some l => some ((i, o) :: l)
    | none => none
  | _ :: _ => none
def evs (s : SS) : List Operand → Option (List SV)
  | [] => some []
  | o :: r => match ev s o, evs s r with
    | some x, some l => some (x :: l)
    | _, _ => none
def evParts (s : SS) : List (Nat × Operand) → Option (List (Nat × Value))
  | [] => some []
  | (i, o) :: r => match ev s o, evParts s r with
    | some (.v x), some l => some ((i, x) :: l)
    | _, _ => none
def fieldOf (P : Program) (T : TypeId) (f : Nat) : Option Field :=
  match P.underlying T with
  | some (.struct fs) => fs[f]?
  | _ => none

def quietOp (P : Program) (s : SS) (hint : Hint) : Op → QR
  | .move x | .assign x => match ev s x with | some y => some (y, [], []) | none => none
  | .pick c a b =>
    match ev s c with
    | some (.v (.bool true)) => (match ev s a with | some y => some (y, [], []) | none => none)
    | some (.v (.bool false)) => (match ev s b with | some y => some (y, [], []) | none => none)
    | _ => none
  | .binOp op T X Y _ =>
    match ev s X, ev s Y with
    | some (.v x), some (.v y) => match hint with
      | .val v => some (.v v, [∀ w, (do eqGuard op T X Y x y; binOp op T x y : Sem Value).run P w = .ok v w], [])
      | _ => match binV op x y with
        | some (v, obs) => some (.v v, obs, [])
        | none => none
    | _, _ => none
  | .unOp op _ X => match op, ev s X with
    | .not, some (.v (.bool b)) => some (.v (.bool (!b)), [], [])
    | _, _ => none
  | .convert S D X =>
    if (P.underlying S).isNone then none else
    match P.underlying D, ev s X with
    | some (.int .i64), some (.v (.int .i64 n)) => some (.v (.int .i64 n), [inR n], [])
    | some (.int .i64), some (.v (.int .u8 n)) => some (.v (.int .i64 n), [0 ≤ n, n ≤ 255], [])
    | some (.int .u8), some (.v (.int .i64 n)) => some (.v (.int .u8 (n % 256)), [], [])
    | _, some (.v x) => match hint with
      | .val v => some (.v v, [∀ w, (convert S D x : Sem Value).run P w = .ok v w], [])
      | _ => none
    | _, _ => none
  | .fieldAddr T X f =>
    match fieldOf P T f with
    | some fd => if P.cellsOf fd.type = 0 then none else
      match ev s X with
      | some (.p i o) => some (.p i (o + fd.offset), [], [])
      | some (.v (.pointer (some a))) => some (.v (.pointer (some (a.add fd.offset))), [], [])
      | _ => none
    | none => none
  | .field T X f =>
    match fieldOf P T f, ev s X with
    | some fd, some (.v (.agg cs)) =>
      if (P.underlying fd.type).isNone then none else
      if isAggB P fd.type then some (.v (.agg (cs.extract fd.offset (fd.offset + P.cellsOf fd.type))), [], [])
      else match cs[fd.offset]? with
        | some v => some (.v v, [], [])
        | none => none
    | _, _ => none
  | .nilCheck X =>
    match ev s X with
    | some (.p i o) => some (.p i o, [], [])
    | some (.v (.pointer (some a))) => some (.v (.pointer (some a)), [], [])
    | some (.fn f c) => some (.fn f c, [], [])
    | _ => none
  | .extract X i =>
    match ev s X with
    | some (.v (.tuple vs)) => match vs[i]? with
      | some v => some (.v v, [], [])
      | none => none
    | _ => none
  | .build T parts =>
    match evParts s parts.toList with
    | some l => match P.built T l with
      | some cells => some (.v (.agg cells), [], [])
      | none => none
    | none => none
  | .makeFunc (.func f) first captured =>
    match first.toList, evs s captured.toList with
    | [], some l => match capsOf l with
      | some c => some (.fn f c, [], [])
      | none => none
    | _, _ => none
  | .indexAddr T X I =>
    match P.underlying T, ev s X, ev s I, hint with
    | some (.slice e), some (.v (.slice A n _)), some (.v (.int .i64 i)), .idx a j =>
      if P.cellsOf e = 0 then none else some (.v (.pointer (some (a.add (j * P.cellsOf e)))), [A = some a, i = (j : Int), j < n], [])
    | some (.array n e), some (.p b o), some (.v (.int .i64 i)), .idx _ j =>
      if P.cellsOf e = 0 then none else some (.p b (o + j * P.cellsOf e), [i = (j : Int), j < n], [])
    | some (.slice e), some (.s b o n _), some (.v (.int .i64 i)), .idx _ j =>
      if P.cellsOf e = 0 then none else some (.p b (o + j * P.cellsOf e), [i = (j : Int), j < n], [])
    | _, _, _, _ => none
  | .index T X I =>
    match P.underlying T, ev s X, ev s I, hint with
    | some .string, some (.v (.string b)), some (.v (.int .i64 i)), .sidx j =>
      some (.v (.int .u8 ((b.data.getD j 0).toNat : Nat)), [i = (j : Int), j < b.size], [])
    | _, _, _, _ => none
  | .slice T X lo hi none =>
    match P.underlying T, ev s X, hint with
    | some .string, some (.v (.string b)), .sl l h =>
      match lo.map (ev s), hi.map (ev s) with
      | none, none => some (.v (.string (b.extract l h)), [l = 0, h = b.size], [])
      | some (some (.v (.int .i64 i))), none => some (.v (.string (b.extract l h)), [i = (l : Int), h = b.size, l ≤ h], [])
      | none, some (some (.v (.int .i64 j))) => some (.v (.string (b.extract l h)), [l = 0, j = (h : Int), h ≤ b.size], [])
      | some (some (.v (.int .i64 i))), some (some (.v (.int .i64 j))) => some (.v (.string (b.extract l h)), [i = (l : Int), j = (h : Int), l ≤ h, h ≤ b.size], [])
      | _, _ => none
    | some (.slice e), some (.v (.slice A n c)), .sl l h =>
      if P.cellsOf e = 0 then none else
      match lo.map (ev s), hi.map (ev s) with
      | some (some (.v (.int .i64 i))), none => some (.v (.slice (if c = l then A else A.map (·.add (l * P.cellsOf e))) (h - l) (c - l)), [i = (l : Int), h = n, l ≤ h], [])
      | none, some (some (.v (.int .i64 j))) => some (.v (.slice A h c), [l = 0, j = (h : Int), h ≤ c], [])
      | some (some (.v (.int .i64 i))), some (some (.v (.int .i64 j))) => some (.v (.slice (if c = l then A else A.map (·.add (l * P.cellsOf e))) (h - l) (c - l)), [i = (l : Int), j = (h : Int), l ≤ h, h ≤ c], [])
      | _, _ => none
    | _, _, _ => none
  | .load T X =>
    if (P.underlying T).isNone then none else
    match ev s X with
    | some (.p i o) =>
      match s.loc[i]? with
      | some b =>
        if isAggB P T then
          match valsOf ((b.cs.drop o).take (P.cellsOf T)) with
          | some l => if l.length = P.cellsOf T then some (.v (.agg l.toArray), [], []) else none
          | none => none
        else match b.cs[o]? with
          | some x => some (x, [], [])
          | none => none
      | none => none
    | some (.v (.pointer (some a))) =>
      match hint with
      | .ext vs =>
        if isAggB P T then (if vs.length = P.cellsOf T then some (.v (.agg vs.toArray), [], [(a, vs)]) else none)
        else match vs with
          | [v] => some (.v v, [], [(a, [v])])
          | _ => none
      | _ => none
    | _ => none
  | .call { callee := .builtin b, args, argTypes } =>
    match b, args.toList, argTypes.toList with
    | .len, [x], [t] =>
      match P.underlying t, ev s x with
      | some (.slice _), some (.v (.slice _ n _)) => some (.v (.int .i64 (n : Int)), [], [])
      | some (.slice _), some (.s _ _ n _) => some (.v (.int .i64 (n : Int)), [], [])
      | some .string, some (.v (.string b)) => some (.v (.int .i64 (b.size : Int)), [], [])
      | _, _ => none
    | .cap, [x], [t] =>
      match P.underlying t, ev s x with
      | some (.slice _), some (.v (.slice _ _ c)) => some (.v (.int .i64 (c : Int)), [], [])
      | _, _ => none
    | .min, [x, y], _ =>
      match ev s x, ev s y with
      | some (.v (.int k a)), some (.v (.int _ b)) => some (.v (.int k (if b < a then b else a)), [], [])
      | _, _ => none
    | .max, [x, y], _ =>
      match ev s x, ev s y with
      | some (.v (.int k a)), some (.v (.int _ b)) => some (.v (.int k (if b > a then b else a)), [], [])
      | _, _ => none
    | .min, [x, y, z], _ =>
      match ev s x, ev s y, ev s z with
      | some (.v (.int k a)), some (.v (.int _ b)), some (.v (.int _ c)) => some (.v (.int k (if c < (if b < a then b else a) then c else (if b < a then b else a))), [], [])
      | _, _, _ => none
    | _, _, _ => none
  | _ => none
end Go.Proofs.YtbjakddkfgjkaaaGreat.Fw

namespace Go.Proofs.YtbjakddkfgjkaaaGreat.Fw
open Go.RowKit

theorem ev_sound {bs : List Nat} {s : SS} {a : Act} (hf : Fr bs s.env a) {X : Operand} {y : SV} (h : ev s X = some y) : a.eval X = den bs y := by
  cases X <;> simp only [ev, Option.some.injEq, reduceCtorEq] at h
  case tmp t => exact hf.2 _ _ h
  case const v => subst h; rfl
  case func f => subst h; rfl
theorem evs_sound {bs : List Nat} {s : SS} {a : Act} (hf : Fr bs s.env a) : ∀ {l : List Operand} {ys : List SV}, evs s l = some ys → l.map a.eval = ys.map (den bs)
  | [], ys, h => by simp [evs] at h; subst h; rfl
  | o :: r, ys, h => by
    simp only [evs] at h
    split at h
    · rename_i x l hx hl
      injection h with h
      subst h
      simp [ev_sound hf hx, evs_sound hf hl]
    · cases h
theorem evParts_sound {bs : List Nat} {s : SS} {a : Act} (hf : Fr bs s.env a) : ∀ {l : List (Nat × Operand)} {ys : List (Nat × Value)}, evParts s l = some ys → l.map (fun p => (p.1, a.eval p.2)) = ys
  | [], ys, h => by simp [evParts] at h; subst h; rfl
  | (i, o) :: r, ys, h => by
    simp only [evParts] at h
    split at h
    · rename_i x l hx hl
      injection h with h
      subst h
      simp [ev_sound hf hx, evParts_sound hf hl, den]
    · cases h
theorem capsOf_sound (bs : List Nat) : ∀ {l : List SV} {c : List (Nat × Nat)}, capsOf l = some c → l.map (den bs) = c.map fun c => Value.pointer (some (adr bs c.1 c.2))
  | [], c, h => by simp [capsOf] at h; subst h; rfl
  | .p i o :: r, c, h => by
    simp only [capsOf] at h
    split at h
    · rename_i l hl
      injection h with h
      subst h
      simp [capsOf_sound bs hl, den]
    · cases h
  | .v _ :: _, c, h => by simp [capsOf] at h
  | .fn _ _ :: _, c, h => by simp [capsOf] at h
  | .s _ _ _ _ :: _, c, h => by simp [capsOf] at h
theorem valsOf_sound (bs : List Nat) : ∀ {l : List SV} {c : List Value}, valsOf l = some c → l.map (den bs) = c
  | [], c, h => by simp [valsOf] at h; subst h; rfl
  | .v x :: r, c, h => by
    simp only [valsOf] at h
    split at h
    · rename_i l hl
      injection h with h
      subst h
      simp [valsOf_sound bs hl, den]
    · cases h
  | .p _ _ :: _, c, h => by simp [valsOf] at h
  | .fn _ _ :: _, c, h => by simp [valsOf] at h
  | .s _ _ _ _ :: _, c, h => by simp [valsOf] at h

theorem isAgg_run (P : Program) (t : TypeId) (w : World) (hu : (P.underlying t).isSome = true) : (isAgg t).run P w = .ok (isAggB P t) w := by
  obtain ⟨d, hd⟩ := Option.isSome_iff_exists.1 hu
  simp only [isAgg, Sem.run_bind, run_underlying hd, Result.andThen_ok, isAggB, hd]
  cases d <;> rfl
theorem sizeOf_run (P : Program) (t : TypeId) (w : World) (hu : (P.info? t).isSome = true) : (sizeOf t).run P w = .ok (P.cellsOf t) w := by
  obtain ⟨d, hd⟩ := Option.isSome_iff_exists.1 hu
  simp [sizeOf, typeInfo, hd, Program.cellsOf]
theorem info_of_cells {P : Program} {t : TypeId} (h : P.cellsOf t ≠ 0) : (P.info? t).isSome = true := by
  unfold Program.cellsOf at h
  cases hi : P.info? t with
  | none => simp [hi] at h
  | some i => rfl

theorem loadCellsFrom_ok (P : Program) (w : World) (a : Addr) : ∀ (n i : Nat) (acc : Array Value) (vs : List Value), vs.length = n → (∀ j v, vs[j]? = some v → w.cell? (a.add (i + j)) = some v) →
    (loadCellsFrom a i n acc).run P w = .ok (acc ++ vs.toArray) w
  | 0, i, acc, vs, hl, _ => by
    have : vs = [] := List.eq_nil_of_length_eq_zero hl
    subst this
    simp [loadCellsFrom]
  | n + 1, i, acc, vs, hl, hc => by
    cases vs with
    | nil => simp at hl
    | cons v r =>
      have h0 := hc 0 v rfl
      simp only [Nat.add_zero] at h0
      simp only [loadCellsFrom, Sem.run_bind, run_load, h0, Result.andThen_ok]
      rw [loadCellsFrom_ok P w a n (i + 1) (acc.push v) r (by simpa using hl) (fun j u hu => by
        have := hc (j + 1) u (by simpa using hu)
        rwa [show i + 1 + j = i + (j + 1) by omega])]
      simp
theorem loadVar_agg (P : Program) (w : World) (t : TypeId) (a : Addr) (vs : List Value) (hagg : isAggB P t = true) (hl : vs.length = P.cellsOf t) (hi : (P.info? t).isSome = true) (hc : CellsAt w a vs) :
    (loadVar t a).run P w = .ok (.agg vs.toArray) w := by
  have hu : (P.underlying t).isSome = true := by
    unfold isAggB at hagg
    cases h : P.underlying t with
    | none => simp [h] at hagg
    | some d => rfl
  simp only [loadVar, Sem.run_bind, isAgg_run P t w hu, hagg, Result.andThen_ok, if_true, sizeOf_run P t w hi, loadCells, Sem.run_pure]
  rw [loadCellsFrom_ok P w a _ 0 #[] vs hl (fun j v h => by simpa using hc j v h)]
  simp
theorem loadVar_one (P : Program) (w : World) (t : TypeId) (a : Addr) (v : Value) (hagg : isAggB P t = false) (hu : (P.underlying t).isSome = true) (hc : w.cell? a = some v) :
    (loadVar t a).run P w = .ok v w := by
  simp [loadVar, isAgg_run P t w hu, hagg, hc]
theorem add_zero (a : Addr) : a.add 0 = a := by simp [Addr.add]
theorem adr_add (bs : List Nat) (i o n : Nat) : (adr bs i o).add n = adr bs i (o + n) := by
  unfold Addr.add adr
  split
  · rename_i h; subst h; rfl
  · rfl
theorem LocOK.cell {bs : List Nat} {loc : List Blk} {w : World} (h : LocOK bs loc w) {i : Nat} {b : Blk} (hb : loc[i]? = some b) {o : Nat} {x : SV} (hx : b.cs[o]? = some x) : w.cell? (adr bs i o) = some (den bs x) := by
  have := h i b hb (by rintro e; rw [e] at hx; simp at hx)
  simp only [World.cell?, adr, this]
  simp [hx]
end Go.Proofs.YtbjakddkfgjkaaaGreat.Fw

namespace Go.Proofs.YtbjakddkfgjkaaaGreat.Fw
open Go.RowKit

theorem info_of_underlying {P : Program} {t : TypeId} (h : (P.underlying t).isNone = false) : (P.info? t).isSome = true := by
  unfold Program.underlying at h
  cases hi : P.info? t with
  | none => simp [hi] at h
  | some i => rfl
theorem some_of_none {α : Type} {o : Option α} (h : ¬ (o.isNone = true)) : o.isSome = true := by cases o <;> simp_all

theorem quiet_sound (P : Program) (o : Oper) (s : SS) (hint : Hint) (x : SV) (obs : List Prop) (wobs : List (Addr × List Value)) (bs : List Nat) (a : Act) (w : World)
    (h : quietOp P s hint o.op = some (x, obs, wobs)) (ho : AllP obs) (hf : Fr bs s.env a) (hl : LocOK bs s.loc w) (hw : AllC w wobs) :
    (execOp a.eval o).run P w = .ok (.value (den bs x)) w := by
  unfold quietOp at h
  unfold execOp
  split at h
  case h_1 X ho' =>
    rw [ho']
    split at h
    · rename_i y hy
      simp only [Option.some.injEq, Prod.mk.injEq] at h
      obtain ⟨rfl, rfl, rfl⟩ := h
      simp [ev_sound hf hy]
    · cases h
  case h_2 X ho' =>
    rw [ho']
    split at h
    · rename_i y hy
      simp only [Option.some.injEq, Prod.mk.injEq] at h
      obtain ⟨rfl, rfl, rfl⟩ := h
      simp [ev_sound hf hy]
    · cases h
  case h_3 c A B ho' =>
    rw [ho']
    split at h
    · rename_i hc
      split at h
      · rename_i y hy
        simp only [Option.some.injEq, Prod.mk.injEq] at h
        obtain ⟨rfl, rfl, rfl⟩ := h
        simp [ev_sound hf hc, den, asBool, ev_sound hf hy]
      · cases h
    · rename_i hc
      split at h
      · rename_i y hy
        simp only [Option.some.injEq, Prod.mk.injEq] at h
        obtain ⟨rfl, rfl, rfl⟩ := h
        simp [ev_sound hf hc, den, asBool, ev_sound hf hy]
      · cases h
    · cases h
  case h_4 op T X Y yt ho' =>
    rw [ho']
    split at h
    · rename_i x y hx hy
      have ex := ev_sound hf hx
      have ey := ev_sound hf hy
      simp only [den] at ex ey
      split at h
      · rename_i v
        simp only [Option.some.injEq, Prod.mk.injEq] at h
        obtain ⟨rfl, rfl, rfl⟩ := h
        have := ho.1 w
        simp only [ex, ey, den, Sem.run_bind] at this ⊢
        rw [this]
        simp
      · split at h
        · rename_i v obs' hv
          simp only [Option.some.injEq, Prod.mk.injEq] at h
          obtain ⟨rfl, rfl, rfl⟩ := h
          have := binV_sound P op T X Y x y v _ w hv ho
          simp only [ex, ey, den, Sem.run_bind] at this ⊢
          rw [this]
          simp
        · cases h
    · cases h
  case h_5 op t X ho' =>
    rw [ho']
    split at h
    · rename_i b hb
      simp only [Option.some.injEq, Prod.mk.injEq] at h
      obtain ⟨rfl, rfl, rfl⟩ := h
      simp [ev_sound hf hb, den, Op.unary]
    · cases h
  case h_6 S D X ho' =>
    rw [ho']
    split at h
    · cases h
    · rename_i hS
      obtain ⟨dS, hS'⟩ := Option.isSome_iff_exists.1 (some_of_none hS)
      split at h
      · rename_i n hD hx
        simp only [Option.some.injEq, Prod.mk.injEq] at h
        obtain ⟨rfl, rfl, rfl⟩ := h
        simp [ev_sound hf hx, den, convert, run_underlying hD, run_underlying hS', Conv.intToInt, wrap64_id ho.1]
      · rename_i n hD hx
        simp only [Option.some.injEq, Prod.mk.injEq] at h
        obtain ⟨rfl, rfl, rfl⟩ := h
        have : IntKind.i64.wrap n = n := wrap64_id ⟨by have := ho.1; omega, by have := ho.2.1; omega⟩
        simp [ev_sound hf hx, den, convert, run_underlying hD, run_underlying hS', Conv.intToInt, this]
      · rename_i n hD hx
        simp only [Option.some.injEq, Prod.mk.injEq] at h
        obtain ⟨rfl, rfl, rfl⟩ := h
        have : IntKind.u8.wrap n = n % 256 := by simp [IntKind.wrap, IntKind.bits, IntKind.signed]
        simp [ev_sound hf hx, den, convert, run_underlying hD, run_underlying hS', Conv.intToInt, this]
      · rename_i D' X' hx _ _ _
        split at h
        · rename_i v
          simp only [Option.some.injEq, Prod.mk.injEq] at h
          obtain ⟨rfl, rfl, rfl⟩ := h
          have := ho.1 w
          simp only [ev_sound hf (by assumption), den, Sem.run_bind] at this ⊢
          rw [this]
          simp
        · cases h
      · cases h
  case h_7 T X f ho' =>
    rw [ho']
    split at h
    · rename_i fd hfd
      split at h
      · cases h
      · rename_i hne
        have hfa : ∀ (ad : Addr), (Instr.fieldAt T (.pointer (some ad)) f).run P w = .ok (.pointer (some (ad.add fd.offset))) w := by
          intro ad
          unfold fieldOf at hfd
          split at hfd
          · rename_i fs hu
            simp [Instr.fieldAt, run_underlying hu, hfd, Instr.sureAddr, fieldPlace, sizeOf_run P fd.type w (info_of_cells hne), hne]
          · cases hfd
        split at h
        · rename_i i o' hx
          simp only [Option.some.injEq, Prod.mk.injEq] at h
          obtain ⟨rfl, rfl, rfl⟩ := h
          simp [ev_sound hf hx, den, hfa, adr_add]
        · rename_i a' hx
          simp only [Option.some.injEq, Prod.mk.injEq] at h
          obtain ⟨rfl, rfl, rfl⟩ := h
          simp [ev_sound hf hx, den, hfa]
        · cases h
    · cases h
  case h_8 T X f ho' =>
    rw [ho']
    split at h
    · rename_i fd cs hfd hx
      unfold fieldOf at hfd
      split at hfd
      · rename_i fs hu
        split at h
        · cases h
        · rename_i hU
          have hU' := some_of_none hU
          have hI := info_of_underlying (Bool.eq_false_iff.2 hU)
          split at h
          · rename_i hagg
            simp only [Option.some.injEq, Prod.mk.injEq] at h
            obtain ⟨rfl, rfl, rfl⟩ := h
            simp [ev_sound hf hx, den, Instr.field, run_underlying hu, hfd, asAgg, part, isAgg_run P fd.type w hU', hagg, sizeOf_run P fd.type w hI]
          · rename_i hagg
            split at h
            · rename_i v hv
              simp only [Option.some.injEq, Prod.mk.injEq] at h
              obtain ⟨rfl, rfl, rfl⟩ := h
              simp [ev_sound hf hx, den, Instr.field, run_underlying hu, hfd, asAgg, part, isAgg_run P fd.type w hU', hagg, hv]
            · cases h
      · cases hfd
    · cases h
  case h_9 X ho' =>
    rw [ho']
    split at h
    · rename_i i o' hx
      simp only [Option.some.injEq, Prod.mk.injEq] at h
      obtain ⟨rfl, rfl, rfl⟩ := h
      simp [ev_sound hf hx, den]
    · rename_i a' hx
      simp only [Option.some.injEq, Prod.mk.injEq] at h
      obtain ⟨rfl, rfl, rfl⟩ := h
      simp [ev_sound hf hx, den]
    · rename_i f c hx
      simp only [Option.some.injEq, Prod.mk.injEq] at h
      obtain ⟨rfl, rfl, rfl⟩ := h
      simp [ev_sound hf hx, den]
    · cases h
  case h_10 X i ho' =>
    rw [ho']
    split at h
    · rename_i vs hx
      split at h
      · rename_i v hv
        simp only [Option.some.injEq, Prod.mk.injEq] at h
        obtain ⟨rfl, rfl, rfl⟩ := h
        simp [ev_sound hf hx, den, Instr.extract, hv]
      · cases h
    · cases h
  case h_11 T parts ho' =>
    rw [ho']
    split at h
    · rename_i l hl'
      split at h
      · rename_i cells hb
        simp only [Option.some.injEq, Prod.mk.injEq] at h
        obtain ⟨rfl, rfl, rfl⟩ := h
        have h1 := evParts_sound hf hl'
        have h2 : (parts.map fun p => (p.1, a.eval p.2)).toList = l := by simpa using h1
        rw [← h2] at hb
        have := run_build w T _ cells hb
        simp [this, den]
      · cases h
    · cases h
  case h_12 f first cap ho' =>
    rw [ho']
    split at h
    · rename_i l hfst hl'
      split at h
      · rename_i c hc
        simp only [Option.some.injEq, Prod.mk.injEq] at h
        obtain ⟨rfl, rfl, rfl⟩ := h
        have h1 := evs_sound hf hl'
        have h2 := capsOf_sound bs hc
        have e1 : first = #[] := by cases first; simp_all
        have e2 : cap.map a.eval = (c.map fun c => Value.pointer (some (adr bs c.1 c.2))).toArray := by
          rw [← h2, ← h1]
          apply Array.ext'
          simp
        simp [Instr.makeFunc, den, e1, e2]
      · cases h
    · cases h
  case h_13 T X I ho' =>
    rw [ho']
    split at h
    · rename_i e A n c i ad j hu hx hi
      split at h
      · cases h
      · rename_i hne
        simp only [Option.some.injEq, Prod.mk.injEq] at h
        obtain ⟨rfl, rfl, rfl⟩ := h
        obtain ⟨rfl, rfl, h3, _⟩ := ho
        simp [ev_sound hf hx, ev_sound hf hi, den, Instr.indexAt, run_underlying hu, asIntOf, sizeOf_run P e w (info_of_cells hne), Nat.not_le.2 h3]
    · rename_i n e b o' i ad j hu hx hi
      split at h
      · cases h
      · rename_i hne
        simp only [Option.some.injEq, Prod.mk.injEq] at h
        obtain ⟨rfl, rfl, rfl⟩ := h
        obtain ⟨rfl, h3, _⟩ := ho
        simp [ev_sound hf hx, ev_sound hf hi, den, Instr.indexAt, run_underlying hu, asIntOf, Instr.sureAddr, sizeOf_run P e w (info_of_cells hne), Nat.not_le.2 h3, adr_add]
    · rename_i e b o' n c i ad j hu hx hi
      split at h
      · cases h
      · rename_i hne
        simp only [Option.some.injEq, Prod.mk.injEq] at h
        obtain ⟨rfl, rfl, rfl⟩ := h
        obtain ⟨rfl, h3, _⟩ := ho
        simp [ev_sound hf hx, ev_sound hf hi, den, Instr.indexAt, run_underlying hu, asIntOf, sizeOf_run P e w (info_of_cells hne), Nat.not_le.2 h3, adr_add]
    · cases h
  case h_14 T X I ho' =>
    rw [ho']
    split at h
    · rename_i b i j hu hx hi
      simp only [Option.some.injEq, Prod.mk.injEq] at h
      obtain ⟨rfl, rfl, rfl⟩ := h
      obtain ⟨rfl, h3, _⟩ := ho
      have h4 : b[j]? = some (b.data.getD j 0) := by
        rw [getElem?_pos b j h3]
        simp only [Array.getD, dif_pos (show j < b.data.size from h3)]
        rfl
      simp [ev_sound hf hx, ev_sound hf hi, den, Instr.index, run_underlying hu, asIntOf, h4]
    · cases h
  case h_15 T X lo hi ho' =>
    rw [ho']
    split at h
    · rename_i b l hh hu hx
      have key : ∀ (lv hv : Option Value), ((lv = none ∧ l = 0) ∨ lv = some (.int .i64 l)) → ((hv = none ∧ hh = b.size) ∨ hv = some (.int .i64 hh)) → l ≤ hh → hh ≤ b.size →
          (Instr.sliceAt T (.string b) lv hv none).run P w = .ok (.string (b.extract l hh)) w := by
        intro lv hv h1 h2 h3 h4
        rcases h1 with ⟨rfl, rfl⟩ | rfl <;> rcases h2 with ⟨rfl, rfl⟩ | rfl <;>
          simp [Instr.sliceAt, run_underlying hu, Instr.slice, Instr.sliceBounds, Instr.sliceBound, asIntOf, h3, h4, -ByteArray.extract_zero_size]
      split at h
      · rename_i e1 e2
        simp only [Option.some.injEq, Prod.mk.injEq] at h
        obtain ⟨rfl, rfl, rfl⟩ := h
        obtain ⟨rfl, rfl, _⟩ := ho
        simp only [Option.map_eq_none_iff] at e1 e2
        subst e1 e2
        simp [ev_sound hf hx, den, key none none (.inl ⟨rfl, rfl⟩) (.inl ⟨rfl, rfl⟩) (Nat.zero_le _) (Nat.le_refl _)]
      · rename_i i e1 e2
        simp only [Option.some.injEq, Prod.mk.injEq] at h
        obtain ⟨rfl, rfl, rfl⟩ := h
        obtain ⟨rfl, rfl, h3, _⟩ := ho
        simp only [Option.map_eq_none_iff] at e2
        obtain ⟨L, rfl, f1⟩ := Option.map_eq_some_iff.1 e1
        subst e2
        simp [ev_sound hf hx, ev_sound hf f1, den, key (some _) none (.inr rfl) (.inl ⟨rfl, rfl⟩) h3 (Nat.le_refl _)]
      · rename_i i e1 e2
        simp only [Option.some.injEq, Prod.mk.injEq] at h
        obtain ⟨rfl, rfl, rfl⟩ := h
        obtain ⟨rfl, rfl, h3, _⟩ := ho
        simp only [Option.map_eq_none_iff] at e1
        obtain ⟨L, rfl, f2⟩ := Option.map_eq_some_iff.1 e2
        subst e1
        simp [ev_sound hf hx, ev_sound hf f2, den, key none (some _) (.inl ⟨rfl, rfl⟩) (.inr rfl) (Nat.zero_le _) h3]
      · rename_i i j e1 e2
        simp only [Option.some.injEq, Prod.mk.injEq] at h
        obtain ⟨rfl, rfl, rfl⟩ := h
        obtain ⟨rfl, rfl, h3, h4, _⟩ := ho
        obtain ⟨L, rfl, f1⟩ := Option.map_eq_some_iff.1 e1
        obtain ⟨H, rfl, f2⟩ := Option.map_eq_some_iff.1 e2
        simp [ev_sound hf hx, ev_sound hf f1, ev_sound hf f2, den, key (some _) (some _) (.inr rfl) (.inr rfl) h3 h4]
      · cases h
    · rename_i e A n c l hh hu hx
      split at h
      · cases h
      rename_i hne
      have key : ∀ (lv hv : Option Value), ((lv = none ∧ l = 0) ∨ lv = some (.int .i64 l)) → ((hv = none ∧ hh = n) ∨ (hv = some (.int .i64 hh) ∧ hh ≤ c)) → l ≤ hh →
          (Instr.sliceAt T (.slice A n c) lv hv none).run P w = .ok (.slice (if c = l then A else A.map (·.add (l * P.cellsOf e))) (hh - l) (c - l)) w := by
        intro lv hv h1 h2 h3
        rcases h1 with ⟨rfl, rfl⟩ | rfl <;> rcases h2 with ⟨rfl, rfl⟩ | ⟨rfl, h4⟩ <;>
          simp [Instr.sliceAt, run_underlying hu, Instr.slice, Instr.sliceBounds, Instr.sliceBound, asIntOf, sizeOf_run P e w (info_of_cells hne), *]
      split at h
      · rename_i i e1 e2
        simp only [Option.some.injEq, Prod.mk.injEq] at h
        obtain ⟨rfl, rfl, rfl⟩ := h
        obtain ⟨rfl, rfl, h3, _⟩ := ho
        simp only [Option.map_eq_none_iff] at e2
        obtain ⟨L, rfl, f1⟩ := Option.map_eq_some_iff.1 e1
        subst e2
        simp [ev_sound hf hx, ev_sound hf f1, den, key (some _) none (.inr rfl) (.inl ⟨rfl, rfl⟩) h3]
      · rename_i i e1 e2
        simp only [Option.some.injEq, Prod.mk.injEq] at h
        obtain ⟨rfl, rfl, rfl⟩ := h
        obtain ⟨rfl, rfl, h3, _⟩ := ho
        simp only [Option.map_eq_none_iff] at e1
        obtain ⟨L, rfl, f2⟩ := Option.map_eq_some_iff.1 e2
        subst e1
        have e3 : (if c = 0 then A else A.map (·.add (0 * P.cellsOf e))) = A := by
          split
          · rfl
          · cases A <;> simp [add_zero]
        have := key none (some (.int .i64 hh)) (.inl ⟨rfl, rfl⟩) (.inr ⟨rfl, h3⟩) (Nat.zero_le _)
        rw [e3] at this
        simp [ev_sound hf hx, ev_sound hf f2, den, this]
      · rename_i i j e1 e2
        simp only [Option.some.injEq, Prod.mk.injEq] at h
        obtain ⟨rfl, rfl, rfl⟩ := h
        obtain ⟨rfl, rfl, h3, h4, _⟩ := ho
        obtain ⟨L, rfl, f1⟩ := Option.map_eq_some_iff.1 e1
        obtain ⟨H, rfl, f2⟩ := Option.map_eq_some_iff.1 e2
        simp [ev_sound hf hx, ev_sound hf f1, ev_sound hf f2, den, key (some _) (some _) (.inr rfl) (.inr ⟨rfl, h4⟩) h3]
      · cases h
    · cases h
  case h_16 T X ho' =>
    rw [ho']
    split at h
    · cases h
    · rename_i hU
      have hU' := some_of_none hU
      have hI := info_of_underlying (Bool.eq_false_iff.2 hU)
      split at h
      · rename_i i o' hx
        split at h
        · rename_i b hb
          split at h
          · rename_i hagg
            split at h
            · rename_i l hl'
              split at h
              · rename_i hlen
                simp only [Option.some.injEq, Prod.mk.injEq] at h
                obtain ⟨rfl, rfl, rfl⟩ := h
                have hc : CellsAt w (adr bs i o') l := by
                  intro j v hj
                  have h1 := valsOf_sound bs hl'
                  rw [← h1] at hj
                  simp only [List.getElem?_map, List.getElem?_take, List.getElem?_drop] at hj
                  split at hj
                  · obtain ⟨y, hy, rfl⟩ := Option.map_eq_some_iff.1 hj
                    rw [adr_add]
                    exact hl.cell hb hy
                  · simp at hj
                simp [ev_sound hf hx, den, Instr.loadAt, Instr.sureAddr, loadVar_agg P w T _ l hagg hlen hI hc]
              · cases h
            · cases h
          · rename_i hagg
            split at h
            · rename_i y hy
              simp only [Option.some.injEq, Prod.mk.injEq] at h
              obtain ⟨rfl, rfl, rfl⟩ := h
              have hc : w.cell? (adr bs i o') = some (den bs y) := hl.cell hb hy
              simp [ev_sound hf hx, den, Instr.loadAt, Instr.sureAddr, loadVar_one P w T _ _ (by simpa using hagg) hU' hc]
            · cases h
        · cases h
      · rename_i ad hx
        split at h
        · rename_i vs
          split at h
          · rename_i hagg
            split at h
            · rename_i hlen
              simp only [Option.some.injEq, Prod.mk.injEq] at h
              obtain ⟨rfl, rfl, rfl⟩ := h
              simp [ev_sound hf hx, den, Instr.loadAt, Instr.sureAddr, loadVar_agg P w T _ vs hagg hlen hI hw.1]
            · cases h
          · rename_i hagg
            split at h
            · rename_i v
              simp only [Option.some.injEq, Prod.mk.injEq] at h
              obtain ⟨rfl, rfl, rfl⟩ := h
              have hc : w.cell? ad = some v := by simpa [add_zero] using hw.1 0 v rfl
              simp [ev_sound hf hx, den, Instr.loadAt, Instr.sureAddr, loadVar_one P w T _ _ (by simpa using hagg) hU' hc]
            · cases h
        · cases h
      · cases h
  case h_17 b args ats ho' =>
    rw [ho']
    split at h
    · rename_i x t hargs hats
      have e1 : args = #[x] := by cases args; simp_all
      have e2 : ats = #[t] := by cases ats; simp_all
      subst e1 e2
      split at h
      · rename_i n c hu hx
        simp only [Option.some.injEq, Prod.mk.injEq] at h
        obtain ⟨rfl, rfl, rfl⟩ := h
        simp [ev_sound hf hx, den, resolve, invoke, builtin, Builtin.len_, run_underlying hu, goInt]
      · rename_i i o' n c hu hx
        simp only [Option.some.injEq, Prod.mk.injEq] at h
        obtain ⟨rfl, rfl, rfl⟩ := h
        simp [ev_sound hf hx, den, resolve, invoke, builtin, Builtin.len_, run_underlying hu, goInt]
      · rename_i b hu hx
        simp only [Option.some.injEq, Prod.mk.injEq] at h
        obtain ⟨rfl, rfl, rfl⟩ := h
        simp [ev_sound hf hx, den, resolve, invoke, builtin, Builtin.len_, run_underlying hu, goInt]
      · cases h
    · rename_i x t hargs hats
      have e1 : args = #[x] := by cases args; simp_all
      have e2 : ats = #[t] := by cases ats; simp_all
      subst e1 e2
      split at h
      · rename_i n c hu hx
        simp only [Option.some.injEq, Prod.mk.injEq] at h
        obtain ⟨rfl, rfl, rfl⟩ := h
        simp [ev_sound hf hx, den, resolve, invoke, builtin, Builtin.cap_, run_underlying hu, goInt]
      · cases h
    · rename_i x y hargs
      have e1 : args = #[x, y] := by cases args; simp_all
      subst e1
      split at h
      · rename_i k n k' m hx hy
        simp only [Option.some.injEq, Prod.mk.injEq] at h
        obtain ⟨rfl, rfl, rfl⟩ := h
        simp [ev_sound hf hx, ev_sound hf hy, den, resolve, invoke, builtin, Builtin.min_, Builtin.min2]
      · cases h
    · rename_i x y hargs
      have e1 : args = #[x, y] := by cases args; simp_all
      subst e1
      split at h
      · rename_i k n k' m hx hy
        simp only [Option.some.injEq, Prod.mk.injEq] at h
        obtain ⟨rfl, rfl, rfl⟩ := h
        simp [ev_sound hf hx, ev_sound hf hy, den, resolve, invoke, builtin, Builtin.max_, Builtin.max2]
      · cases h
    · rename_i x y z hargs
      have e1 : args = #[x, y, z] := by cases args; simp_all
      subst e1
      split at h
      · rename_i k n k' m k'' q hx hy hz
        simp only [Option.some.injEq, Prod.mk.injEq] at h
        obtain ⟨rfl, rfl, rfl⟩ := h
        simp [ev_sound hf hx, ev_sound hf hy, ev_sound hf hz, den, resolve, invoke, builtin, Builtin.min_, Builtin.min2]
      · cases h
    · cases h
  case h_18 => cases h
end Go.Proofs.YtbjakddkfgjkaaaGreat.Fw

namespace Go.Proofs.YtbjakddkfgjkaaaGreat.Fw
open Go.RowKit

/-- nothing that was there has turned, but for the blocks named -/
structure Kp (m : List Nat) (w w' : World) : Prop where
  os : w'.os = w.os
  tape : w'.tape = w.tape
  output : w'.output = w.output
  size : w.heap.size ≤ w'.heap.size
  block : ∀ k, k < w.heap.size → k ∉ m → w'.heap[k]? = w.heap[k]?
theorem Kp.refl (m : List Nat) (w : World) : Kp m w w := ⟨rfl, rfl, rfl, Nat.le_refl _, fun _ _ _ => rfl⟩
theorem Kp.trans {m : List Nat} {a b c : World} (h : Kp m a b) (k : Kp m b c) : Kp m a c :=
  ⟨k.os.trans h.os, k.tape.trans h.tape, k.output.trans h.output, Nat.le_trans h.size k.size, fun i hi hm => (k.block i (Nat.lt_of_lt_of_le hi h.size) hm).trans (h.block i hi hm)⟩
theorem Kp.mono {m m' : List Nat} {a b : World} (h : Kp m a b) (hm : ∀ k, k ∈ m → k ∈ m') : Kp m' a b := ⟨h.os, h.tape, h.output, h.size, fun i hi hn => h.block i hi (fun hk => hn (hm i hk))⟩
/-- a step that turns blocks of 'm2', each new or among 'm' -/
theorem Kp.step {m m2 : List Nat} {a b c : World} (h : Kp m a b) (k : Kp m2 b c) (hm : ∀ i, i ∈ m2 → i ∈ m ∨ a.heap.size ≤ i) : Kp m a c :=
  ⟨k.os.trans h.os, k.tape.trans h.tape, k.output.trans h.output, Nat.le_trans h.size k.size, fun i hi hn => (k.block i (Nat.lt_of_lt_of_le hi h.size) (fun hk => by rcases hm i hk with h1 | h1; exact hn h1; omega)).trans (h.block i hi hn)⟩
theorem Kp.below {w w' : World} (h : Kp [] w w') : Below w.heap.size w w' := ⟨h.os, h.tape, h.output, h.size, fun k hk => h.block k hk (by simp)⟩
theorem Kp.alloc (w : World) (o : Obj) : Kp [] w (w.alloc o) := ⟨rfl, rfl, rfl, by simp, fun k hk _ => Below.heap_alloc w o k hk⟩
theorem Kp.drawn (m : List Nat) (w : World) (n : Nat) : Kp m w { w with drawn := n } := ⟨rfl, rfl, rfl, Nat.le_refl _, fun _ _ _ => rfl⟩

/-- a fact on some blocks -/
structure Res where
  fp : List Nat
  p : World → Prop
  st : ∀ {w w' : World}, (∀ b, b ∈ fp → w'.heap[b]? = w.heap[b]?) → p w → p w'

/-- what is known of the world: 'm': the blocks that may be turned -/
structure WS (m : List Nat) (w0 : World) (bs : List Nat) (loc : List Blk) (R : List Res) (w : World) : Prop where
  kp : Kp m w0 w
  len : loc.length = bs.length
  loc : LocOK bs loc w
  res : ∀ r, r ∈ R → r.p w
  nd : (bs ++ R.flatMap Res.fp).Nodup
  lo : ∀ b, b ∈ bs ++ R.flatMap Res.fp → (w0.heap.size ≤ b ∨ b ∈ m) ∧ b < w.heap.size

structure Cx where
  P : Program
  n : Nat
  m : List Nat
  w0 : World

def Sat (C : Cx) (R : List Res) (s : SS) (a : Act) (w : World) : Prop := ∃ bs, Fr bs s.env a ∧ a.tmps.size = C.n ∧ WS C.m C.w0 bs s.loc R w

/-- the same, the blocks named -/
def SatB (C : Cx) (R : List Res) (s : SS) (bs : List Nat) (a : Act) (w : World) : Prop := Fr bs s.env a ∧ a.tmps.size = C.n ∧ WS C.m C.w0 bs s.loc R w
theorem Sat.of {C : Cx} {R : List Res} {s : SS} {bs : List Nat} {a : Act} {w : World} (h : SatB C R s bs a w) : Sat C R s a w := ⟨bs, h⟩

def JC (C : Cx) (c : Code) (Q : Exit → Act → World → Prop) (R : List Res) (s : SS) : Prop := ∀ a w, Sat C R s a w → c.wp C.P Q a w
def JL (C : Cx) (ops : Array Oper) (Q : Exit → Act → World → Prop) (R : List Res) (s : SS) (rest : List Oper) : Prop := ∀ a w, Sat C R s a w → wpList C.P ops Q rest a w
def JQ (C : Cx) (Q : Exit → Act → World → Prop) (e : Exit) (R : List Res) (s : SS) : Prop := ∀ a w, Sat C R s a w → Q e a w

/-! ### local blocks -/
def setAt {α : Type} (l : List α) (off : Nat) (vs : List α) : List α := l.take off ++ vs ++ l.drop (off + vs.length)
theorem setAt_nil {α : Type} (l : List α) (off : Nat) : setAt l off [] = l := by simp [setAt]
theorem setAt_app {α : Type} (A : List α) (x v : α) (B vs : List α) (off : Nat) (h : A.length = off) : setAt ((A ++ x :: B).set off v) (off + 1) vs = setAt (A ++ x :: B) off (v :: vs) := by
  subst h
  have e : (A ++ x :: B).set A.length v = A ++ v :: B := by simp
  rw [e]
  unfold setAt
  have e1 : (A ++ v :: B).take (A.length + 1) = A ++ [v] := by rw [List.take_append, List.take_of_length_le (by omega)]; simp
  have e2 : (A ++ v :: B).drop (A.length + 1 + vs.length) = B.drop vs.length := by
    rw [List.drop_append, List.drop_eq_nil_of_le (by omega), show A.length + 1 + vs.length - A.length = vs.length + 1 by omega]
    simp
  have e3 : (A ++ x :: B).take A.length = A := by simp
  have e4 : (A ++ x :: B).drop (A.length + (v :: vs).length) = B.drop vs.length := by
    rw [List.drop_append, List.drop_eq_nil_of_le (by omega), show A.length + (v :: vs).length - A.length = vs.length + 1 by simp]
    simp
  rw [e1, e2, e3, e4]
  simp
theorem setAt_cons {α : Type} (l : List α) (off : Nat) (v : α) (vs : List α) (h : off + vs.length + 1 ≤ l.length) : setAt (l.set off v) (off + 1) vs = setAt l off (v :: vs) := by
  have e : l = l.take off ++ l[off] :: l.drop (off + 1) := by simp
  have := setAt_app (l.take off) (l[off]) v (l.drop (off + 1)) vs off (by simp; omega)
  rwa [← e] at this

theorem storeCells_ok (P : Program) (b : Nat) (t : TypeId) : ∀ (vs : List Value) (i : Nat) (off : Nat) (w : World) (cs : List Value), (∀ v, v ∈ vs → v.oneCell' = true) →
    w.heap[b]? = some (.cells cs.toArray t (0, 0)) → off + i + vs.length ≤ cs.length →
    ∃ w', (storeCells ⟨b, off, none⟩ vs i).run P w = .ok () w' ∧ w'.heap[b]? = some (.cells (setAt cs (off + i) vs).toArray t (0, 0)) ∧ Kp [b] w w' ∧ w'.heap.size = w.heap.size
  | [], i, off, w, cs, _, hb, _ => ⟨w, by simp [storeCells], by rw [setAt_nil]; exact hb, Kp.refl _ _, rfl⟩
  | v :: r, i, off, w, cs, h1, hb, hl => by
    simp only [List.length_cons] at hl
    have ha : (Addr.mk b off none).add i = ⟨b, off + i, none⟩ := by unfold Addr.add; split <;> simp_all
    have hc : w.cell? ⟨b, off + i, none⟩ = some (cs[off + i]'(by omega)) := by
      simp only [World.cell?, hb]
      simp
    have hf : w.frozen? ⟨b, off + i, none⟩ = false := by simp [World.frozen?, hb]
    have hb' : (w.setCell ⟨b, off + i, none⟩ v).heap[b]? = some (.cells ((cs.set (off + i) v)).toArray t (0, 0)) := by
      simp only [World.setCell, Array.getElem?_modify, if_true, hb, Option.map_some]
      simp
    obtain ⟨w', h2, h3, h4, h5⟩ := storeCells_ok P b t r (i + 1) off _ _ (fun u hu => h1 u (List.mem_cons_of_mem _ hu)) hb' (by simp; omega)
    refine ⟨w', ?_, ?_, ?_, ?_⟩
    · simp only [storeCells, Sem.run_bind, ha, run_store P w _ v _ (h1 v (List.mem_cons_self ..)), hc, hf, Bool.false_eq_true, if_false, Result.andThen_ok]
      exact h2
    · rw [h3, ← setAt_cons cs (off + i) v r (by omega)]
      rfl
    · refine Kp.trans (b := w.setCell ⟨b, off + i, none⟩ v) ⟨rfl, rfl, rfl, by simp [World.setCell], fun k hk hm => Below.heap_setCell w ⟨b, off + i, none⟩ v k (by simpa using hm)⟩ h4
    · rw [h5]; simp [World.setCell]

/-- the cells of a value that is stored -/
def cellsOfSV : SV → Option (List SV)
  | .v (.agg cs) => some (cs.toList.map .v)
  | .v (.tuple _) => none
  | .v (.int k n) => some [.v (.int k n)]
  | .v (.bool b) => some [.v (.bool b)]
  | .v (.string b) => some [.v (.string b)]
  | .v (.slice A n c) => some [.v (.slice A n c)]
  | .v (.pointer A) => some [.v (.pointer A)]
  | .p i o => some [.p i o]
  | .s i o n c => some [.s i o n c]
  | .fn f c => some [.fn f c]
  | _ => none
theorem cellsOfSV_cells (bs : List Nat) {x : SV} {l : List SV} (h : cellsOfSV x = some l) : (den bs x).cells.toList = l.map (den bs) := by
  unfold cellsOfSV at h
  split at h <;> simp only [Option.some.injEq, reduceCtorEq] at h <;> subst h <;> simp [den, Value.cells, Function.comp_def]
/-- none is an aggregate within an aggregate -/
def flatCells : List SV → Bool
  | [] => true
  | .v (.agg _) :: _ => false
  | .v (.tuple _) :: _ => false
  | .v (.int _ _) :: r => flatCells r
  | .v (.bool _) :: r => flatCells r
  | .v (.string _) :: r => flatCells r
  | .v (.slice _ _ _) :: r => flatCells r
  | .v (.pointer _) :: r => flatCells r
  | .p _ _ :: r => flatCells r
  | .s _ _ _ _ :: r => flatCells r
  | .fn _ _ :: r => flatCells r
  | _ => false
theorem flatCells_one (bs : List Nat) : ∀ {l : List SV}, flatCells l = true → ∀ v, v ∈ l.map (den bs) → v.oneCell' = true
  | [], _, v, hv => by simp at hv
  | x :: r, h, v, hv => by
    have hr : flatCells r = true ∧ (den bs x).oneCell' = true := by
      unfold flatCells at h
      split at h <;> first | cases h; done | (injections; subst_vars; exact ⟨h, rfl⟩) | (rename_i e; cases e; done) | skip
      all_goals (rename_i e; injection e with e1 e2; subst e1 e2; exact ⟨h, rfl⟩)
    rcases List.mem_cons.1 hv with rfl | hv
    · exact hr.2
    · exact flatCells_one bs hr.1 v hv
end Go.Proofs.YtbjakddkfgjkaaaGreat.Fw

namespace Go.Proofs.YtbjakddkfgjkaaaGreat.Fw
open Go.RowKit

def dstOK (n : Nat) : Option Tmp → Bool
  | none => true
  | some t => Nat.blt t n
theorem dstOK_lt {n : Nat} {d : Option Tmp} (h : dstOK n d = true) : ∀ t, d = some t → t < n := by
  rintro t rfl
  exact Nat.blt_eq ▸ h

/-- is a guarded operation carried out? -/
def gd (ops : Array Oper) (s : SS) (o : Oper) : Option Bool :=
  match o.guard with
  | none => some true
  | some (j, want) =>
    match (ops[j]?).bind (·.dst) with
    | some d => match get s.env d with
      | some (.v (.bool true)) => some want
      | some (.v (.bool false)) => some (!want)
      | some (.v (.tuple _)) => some false
      | _ => none
    | none => none
theorem gd_sound {ops : Array Oper} {s : SS} {o : Oper} {b : Bool} {bs : List Nat} {a : Act} (hf : Fr bs s.env a) (h : gd ops s o = some b) : Region.wanted o (yielded ops a.tmps) = b := by
  unfold gd at h
  unfold Region.wanted
  split at h
  · rename_i hg
    simp only [hg, Option.some.injEq] at h ⊢
    exact h
  · rename_i j want hg
    simp only [hg]
    split at h
    · rename_i d hd
      have key : yielded ops a.tmps j = match a.tmps[d]? with | some (.bool b) => some b | _ => none := by
        unfold yielded
        rw [hd]
        rfl
      split at h
      · rename_i hx
        have h1 := hf.2 _ _ hx
        have h2 : a.tmps[d]? = some (.bool true) := by
          cases h3 : a.tmps[d]? with
          | none => simp [Array.getD_eq_getD_getElem?, h3, den, undef] at h1
          | some v => simpa [Array.getD_eq_getD_getElem?, h3, den] using h1
        rw [key, h2]
        injection h with h
        subst h
        cases want <;> rfl
      · rename_i hx
        have h1 := hf.2 _ _ hx
        have h2 : a.tmps[d]? = some (.bool false) := by
          cases h3 : a.tmps[d]? with
          | none => simp [Array.getD_eq_getD_getElem?, h3, den, undef] at h1
          | some v => simpa [Array.getD_eq_getD_getElem?, h3, den] using h1
        rw [key, h2]
        injection h with h
        subst h
        cases want <;> rfl
      · rename_i vs hx
        have h1 := hf.2 _ _ hx
        injection h with h
        subst h
        rw [key]
        cases h3 : a.tmps[d]? with
        | none => rfl
        | some v =>
          have : v = .tuple vs := by simpa [Array.getD_eq_getD_getElem?, h3, den] using h1
          subst this
          rfl
      · cases h
    · cases h

def okSV (k : Nat) : SV → Bool
  | .v _ => true
  | .p i _ => Nat.blt i k
  | .s i _ _ _ => Nat.blt i k
  | .fn _ c => c.all fun x => Nat.blt x.1 k
def okS (s : SS) : Bool := s.env.all (fun x => okSV s.loc.length x.2) && s.loc.all fun b => b.cs.all (okSV s.loc.length)

theorem den_ext {bs : List Nat} {x : SV} {k : Nat} (hk : k = bs.length) (h : okSV k x = true) (b : Nat) : den (bs ++ [b]) x = den bs x := by
  have key : ∀ i o, i < bs.length → adr (bs ++ [b]) i o = adr bs i o := by
    intro i o hi
    simp [adr, List.getElem?_append, hi]
  subst hk
  cases x with
  | v x => rfl
  | p i o => simp only [den, key i o (by simpa [okSV] using h)]
  | s i o n c => simp only [den, key i o (by simpa [okSV] using h)]
  | fn f c =>
    simp only [den]
    congr 2
    apply List.map_congr_left
    intro y hy
    have h1 := List.all_eq_true.1 h y hy
    rw [key _ _ (by simpa using h1)]

theorem get_mem {e : Env} {t : Nat} {x : SV} (h : get e t = some x) : ∃ u, (u, x) ∈ e := by
  induction e with
  | nil => cases h
  | cons y r ih =>
    obtain ⟨u, z⟩ := y
    simp only [get] at h
    cases hb : Nat.beq u t with
    | true => simp only [hb, cond_true, Option.some.injEq] at h; subst h; exact ⟨u, List.mem_cons_self ..⟩
    | false => simp only [hb, cond_false] at h; obtain ⟨v, hv⟩ := ih h; exact ⟨v, List.mem_cons_of_mem _ hv⟩

theorem Fr.ext {bs : List Nat} {s : SS} {a : Act} (hf : Fr bs s.env a) (hl : s.loc.length = bs.length) (hk : okS s = true) (b : Nat) : Fr (bs ++ [b]) s.env a := by
  simp only [okS, Bool.and_eq_true] at hk
  refine ⟨hf.1, fun t x hx => ?_⟩
  obtain ⟨u, hu⟩ := get_mem hx
  rw [den_ext hl (List.all_eq_true.1 hk.1 _ hu)]
  exact hf.2 t x hx

theorem WS.alloc {m : List Nat} {w0 : World} {bs : List Nat} {s : SS} {R : List Res} {w : World} (h : WS m w0 bs s.loc R w) (hk : okS s = true) (T : Nat) (cs : List SV) (hcs : ∀ x, x ∈ cs → okSV s.loc.length x = true) :
    WS m w0 (bs ++ [w.heap.size]) (s.loc ++ [⟨T, cs⟩]) R (w.alloc (.cells (cs.map (den bs)).toArray T)) := by
  have hl := h.len
  simp only [okS, Bool.and_eq_true] at hk
  have hlt : ∀ b, b ∈ bs ++ R.flatMap Res.fp → b < w.heap.size := fun b hb => (h.lo b hb).2
  have hsame : ∀ k, k < w.heap.size → (w.alloc (.cells (cs.map (den bs)).toArray T)).heap[k]? = w.heap[k]? := fun k hk => Below.heap_alloc w _ k hk
  have hdcs : cs.map (den (bs ++ [w.heap.size])) = cs.map (den bs) := List.map_congr_left fun x hx => den_ext hl (hcs x hx) _
  refine ⟨h.kp.trans ((Kp.alloc w _).mono (by simp)), by simp [hl], ?_, ?_, ?_, ?_⟩
  · intro i b hb hne
    rw [List.getElem?_append] at hb
    by_cases hi : i < s.loc.length
    · rw [if_pos hi] at hb
      have h1 := h.loc i b hb hne
      have hmem : b ∈ s.loc := List.mem_of_getElem? hb
      have hd : b.cs.map (den (bs ++ [w.heap.size])) = b.cs.map (den bs) := List.map_congr_left fun x hx => den_ext hl (List.all_eq_true.1 (List.all_eq_true.1 hk.2 b hmem) x hx) _
      have hb2 : (bs ++ [w.heap.size]).getD i 0 = bs.getD i 0 := by simp [List.getElem?_append, ← hl, hi]
      have hb3 : bs.getD i 0 ∈ bs ++ R.flatMap Res.fp := by
        rw [List.getD_eq_getElem?_getD, List.getElem?_eq_getElem (by omega)]
        exact List.mem_append_left _ (List.getElem_mem _)
      rw [hb2, hd, hsame _ (hlt _ hb3)]
      exact h1
    · rw [if_neg hi] at hb
      have hi2 : i = s.loc.length := by
        rcases Nat.lt_or_ge (i - s.loc.length) 1 with h2 | h2
        · omega
        · rw [List.getElem?_eq_none (by simpa using h2)] at hb; cases hb
      subst hi2
      simp only [Nat.sub_self, List.getElem?_cons_zero, Option.some.injEq] at hb
      subst hb
      have : (bs ++ [w.heap.size]).getD s.loc.length 0 = w.heap.size := by simp [hl]
      rw [this, hdcs]
      exact heap_alloc_new w _
  · exact fun r hr => r.st (fun b hb => hsame b (hlt b (List.mem_append_right _ (List.mem_flatMap.2 ⟨r, hr, hb⟩)))) (h.res r hr)
  · rw [List.append_assoc, List.nodup_append]
    have h1 := List.nodup_append.1 h.nd
    refine ⟨h1.1, ?_, ?_⟩
    · rw [List.singleton_append, List.nodup_cons]
      exact ⟨fun hm => Nat.lt_irrefl _ (hlt _ (List.mem_append_right _ hm)), h1.2.1⟩
    · intro x hx y hy
      rcases List.mem_append.1 hy with hy | hy
      · simp only [List.mem_singleton] at hy
        subst hy
        exact Nat.ne_of_lt (hlt _ (List.mem_append_left _ hx))
      · exact h1.2.2 x hx y hy
  · intro b hb
    have hsz : (w.alloc (.cells (cs.map (den bs)).toArray T)).heap.size = w.heap.size + 1 := by simp
    rw [hsz]
    have h0 := h.kp.size
    simp only [List.append_assoc, List.mem_append, List.mem_singleton] at hb
    rcases hb with hb | rfl | hb
    · have := h.lo b (List.mem_append_left _ hb); exact ⟨this.1, by omega⟩
    · exact ⟨.inl h0, by omega⟩
    · have := h.lo b (List.mem_append_right _ hb); exact ⟨this.1, by omega⟩

/-- a local block is written -/
theorem WS.set {m : List Nat} {w0 : World} {bs : List Nat} {loc : List Blk} {R : List Res} {w w' : World} (h : WS m w0 bs loc R w) (i : Nat) (b : Blk) (hb : loc[i]? = some b) (cs : List SV)
    (hw : w'.heap[bs.getD i 0]? = some (.cells (cs.map (den bs)).toArray b.ty (0, 0))) (hk : Kp [bs.getD i 0] w w') (hs : w'.heap.size = w.heap.size) :
    WS m w0 bs (loc.set i ⟨b.ty, cs⟩) R w' := by
  have hl := h.len
  have hi : i < loc.length := (List.getElem?_eq_some_iff.1 hb).1
  have hib : i < bs.length := by omega
  have hg : bs.getD i 0 = bs[i] := by simp [hib]
  have hmi : bs.getD i 0 ∈ bs := by rw [hg]; exact List.getElem_mem _
  have h1 := List.nodup_append.1 h.nd
  have hsame : ∀ k, k < w.heap.size → k ≠ bs.getD i 0 → w'.heap[k]? = w.heap[k]? := fun k hk1 hk2 => hk.block k hk1 (by simpa using hk2)
  refine ⟨?_, by simp [hl], ?_, ?_, h.nd, fun x hx => by rw [hs]; exact h.lo x hx⟩
  · refine h.kp.step hk (fun k hk => ?_)
    simp only [List.mem_singleton] at hk
    subst hk
    exact (h.lo _ (List.mem_append_left _ hmi)).1.symm
  · intro j c hc hne
    by_cases hij : i = j
    · subst hij
      rw [List.getElem?_set_self hi] at hc
      injection hc with hc
      subst hc
      exact hw
    · rw [List.getElem?_set_ne hij] at hc
      have hj : j < loc.length := (List.getElem?_eq_some_iff.1 hc).1
      have hjb : j < bs.length := by omega
      have hgj : bs.getD j 0 = bs[j] := by simp [hjb]
      have hmj : bs.getD j 0 ∈ bs := by rw [hgj]; exact List.getElem_mem _
      rw [hsame _ (h.lo _ (List.mem_append_left _ hmj)).2 (by
        rw [hg, hgj]
        intro he
        exact hij ((List.getElem?_inj hib h1.1).1 (by rw [List.getElem?_eq_getElem hib, List.getElem?_eq_getElem hjb, he])))]
      exact h.loc j c hc hne
  · intro r hr
    refine r.st (fun k hk1 => hsame k (h.lo k (List.mem_append_right _ (List.mem_flatMap.2 ⟨r, hr, hk1⟩))).2 ?_) (h.res r hr)
    rintro rfl
    exact h1.2.2 _ hmi _ (List.mem_flatMap.2 ⟨r, hr, hk1⟩) rfl
end Go.Proofs.YtbjakddkfgjkaaaGreat.Fw

namespace Go.Proofs.YtbjakddkfgjkaaaGreat.Fw
open Go.RowKit

abbrev StepR := Option (SS × List Prop × List (Addr × List Value))

def zeroCellsOf (P : Program) (T : TypeId) : Option (List Value) :=
  match P.info? T with
  | some i => match i.zero with
    | some z => some z.cells.toList
    | none => none
  | none => none

/-- the parts of a slice literal, one behind the other -/
def partCells (s : SS) (size : Nat) : Nat → List (Nat × Operand) → Option (List SV)
  | _, [] => some []
  | k, (i, o) :: r =>
    bif Nat.beq i k then
      match ev s o with
      | some x => match cellsOfSV x, partCells s size (k + 1) r with
        | some cs, some l => if cs.length = size then some (cs ++ l) else none
        | _, _ => none
      | none => none
    else none

def stepO (P : Program) (n : Nat) (ops : Array Oper) (s : SS) (hint : Hint) (o : Oper) : StepR :=
  if dstOK n o.dst then
    match gd ops s o with
    | none => none
    | some false => some (⟨putE s.env o.dst (.v undef), s.loc⟩, [], [])
    | some true =>
      match o.op with
      | .alloc T =>
        match zeroCellsOf P T with
        | some z => if okS s then some (⟨putE s.env o.dst (.p s.loc.length 0), s.loc ++ [⟨T, z.map .v⟩]⟩, [], []) else none
        | none => none
      | .box T X =>
        match ev s X with
        | some x => match cellsOfSV x with
          | some cs => if okS s && cs.all (okSV s.loc.length) then some (⟨putE s.env o.dst (.p s.loc.length 0), s.loc ++ [⟨T, cs⟩]⟩, [], []) else none
          | none => none
        | none => none
      | .store T A X =>
        match ev s A, ev s X with
        | some (.p i off), some x =>
          match s.loc[i]?, cellsOfSV x with
          | some b, some cs =>
            if cs.length = P.cellsOf T ∧ P.cellsOf T ≠ 0 ∧ off + cs.length ≤ b.cs.length ∧ flatCells cs = true then
              some (⟨putE s.env o.dst (.v undef), s.loc.set i ⟨b.ty, setAt b.cs off cs⟩⟩, [], [])
            else none
          | _, _ => none
        | _, _ => none
      | .buildSlice T len parts =>
        match P.underlying T with
        | some (.slice e) =>
          match partCells s (P.cellsOf e) 0 parts.toList with
          | some cs =>
            if parts.size = len ∧ P.cellsOf e ≠ 0 ∧ len ≤ 65536 ∧ P.cellsOf e ≤ 256 ∧ ((zeroCellsOf P e).map List.length) = some (P.cellsOf e) ∧ okS s = true ∧ cs.all (okSV s.loc.length) = true then
              some (⟨putE s.env o.dst (.s s.loc.length 0 len len), s.loc ++ [⟨e, cs⟩]⟩, [], [])
            else none
          | none => none
        | _ => none
      | op =>
        match quietOp P s hint op with
        | some (x, obs, wobs) => some (⟨putE s.env o.dst x, s.loc⟩, obs, wobs)
        | none => none
  else none

theorem fill_one (cells : List Value) (off : Nat) (v : Value) (h : off + v.cells.size ≤ cells.length) :
    v.cells.zipIdx.foldl (fun cs (c, j) => cs.setIfInBounds (off + j) c) cells.toArray = (setAt cells off v.cells.toList).toArray := by
  rw [← Array.foldl_toList, Array.toList_zipIdx]
  generalize hv : v.cells.toList = vs
  have hl : off + vs.length ≤ cells.length := by rw [← hv]; simpa using h
  clear hv h
  have key : ∀ (vs : List Value) (k : Nat) (cells : List Value), off + k + vs.length ≤ cells.length →
      (vs.zipIdx k).foldl (fun cs (x : Value × Nat) => cs.setIfInBounds (off + x.2) x.1) cells.toArray = (setAt cells (off + k) vs).toArray := by
    intro vs
    induction vs with
    | nil => intro k cells _; simp [setAt_nil]
    | cons v r ih =>
      intro k cells hh
      simp only [List.length_cons] at hh
      simp only [List.zipIdx_cons, List.foldl_cons]
      have e : cells.toArray.setIfInBounds (off + k) v = (cells.set (off + k) v).toArray := by simp
      rw [e, ih (k + 1) _ (by simp; omega), ← setAt_cons cells (off + k) v r (by omega)]
      rfl
  simpa using key vs 0 cells (by simpa using hl)

theorem fill_parts (bs : List Nat) (s : SS) (a : Act) (hf : Fr bs s.env a) (size : Nat) : ∀ (l : List (Nat × Operand)) (k : Nat) (cs : List SV) (done zeros : List Value),
    partCells s size k l = some cs → done.length = k * size → zeros.length = l.length * size →
    Instr.fill (fun i => some (i * size, size)) (done ++ zeros).toArray (l.map fun p => (p.1, a.eval p.2)) = some (done ++ cs.map (den bs)).toArray
  | [], k, cs, done, zeros, h, _, hz => by
    simp [partCells] at h
    subst h
    have : zeros = [] := List.eq_nil_of_length_eq_zero (by simpa using hz)
    subst this
    simp [Instr.fill]
  | (i, o) :: r, k, cs, done, zeros, h, hd, hz => by
    simp only [partCells] at h
    cases hb : Nat.beq i k with
    | false => simp [hb] at h
    | true =>
      have hi : i = k := Nat.eq_of_beq_eq_true hb
      subst hi
      simp only [hb, cond_true] at h
      split at h
      · rename_i x hx
        split at h
        · rename_i c1 l1 hc1 hl1
          split at h
          · rename_i hlen
            injection h with h
            subst h
            have e1 := cellsOfSV_cells bs hc1
            have e2 : (a.eval o).cells.toList = c1.map (den bs) := by rw [ev_sound hf hx]; exact e1
            have e3 : (a.eval o).cells.size = size := by rw [← Array.length_toList, e2]; simpa using hlen
            simp only [List.length_cons, Nat.add_mul, Nat.one_mul] at hz
            have hge : ¬ (i * size + (a.eval o).cells.size > (done ++ zeros).toArray.size) := by
              simp only [List.size_toArray, List.length_append, e3, hd, hz]; omega
            simp only [List.map_cons, Instr.fill, e3, ne_eq, not_true_eq_false]
            rw [if_neg (by rw [e3] at hge; simpa using hge)]
            have e4 := fill_one (done ++ zeros) (i * size) (a.eval o) (by simp only [List.length_append, e3, hd, hz]; omega)
            rw [e4, e2]
            have e5 : setAt (done ++ zeros) (i * size) (c1.map (den bs)) = (done ++ c1.map (den bs)) ++ zeros.drop size := by
              unfold setAt
              rw [List.take_append_of_le_length (by omega), ← hd, List.take_length, List.drop_append, List.drop_eq_nil_of_le (by omega)]
              simp [hlen]
            rw [e5]
            have := fill_parts bs s a hf size r (i + 1) l1 (done ++ c1.map (den bs)) (zeros.drop size) hl1 (by simp [hd, hlen, Nat.add_mul]) (by simp; omega)
            rw [this]
            simp
          · cases h
        · cases h
      · cases h

theorem buildSlice_run (P : Program) (T e len : Nat) (hu : P.underlying T = some (.slice e)) (hc2 : P.cellsOf e ≠ 0) (hc3 : len ≤ 65536) (hc4 : P.cellsOf e ≤ 256) (hc5 : ((zeroCellsOf P e).map List.length) = some (P.cellsOf e))
    (bs : List Nat) (s : SS) (a : Act) (hf : Fr bs s.env a) (parts : Array (Nat × Operand)) (cs : List SV) (hcs : partCells s (P.cellsOf e) 0 parts.toList = some cs) (hc1 : parts.size = len) (w : World) :
    (Instr.buildSlice T len (parts.map fun (i, x) => (i, a.eval x))).run P w = .ok (.slice (some ⟨w.heap.size, 0, none⟩) len len) (w.alloc (.cells ((cs.map (den bs)).toArray) e)) := by
  obtain ⟨z, hz, hzl⟩ := Option.map_eq_some_iff.1 hc5
  unfold zeroCellsOf at hz
  split at hz
  · rename_i i hi
    split at hz
    · rename_i zv hzv
      injection hz with hz
      have hsz : len * P.cellsOf e ≤ 2 ^ 24 := by
        have := Nat.mul_le_mul hc3 hc4
        omega
      have hzc : (zeroValue e).run P w = .ok zv w := by simp [zeroValue, typeInfo, hi, hzv]
      have hfill := fill_parts bs s a hf (P.cellsOf e) parts.toList 0 cs [] ((List.range (len * P.cellsOf e)).map fun k => zv.cells[k % zv.cells.size]!) hcs (by simp) (by simp [hc1])
      have harr : ((Array.range (len * P.cellsOf e)).map fun k => zv.cells[k % zv.cells.size]!) = (((List.range (len * P.cellsOf e)).map fun k => zv.cells[k % zv.cells.size]!)).toArray := by
        apply Array.ext'
        simp
      have hparts : (parts.map fun (x : Nat × Operand) => (x.1, a.eval x.2)).toList = parts.toList.map fun p => (p.1, a.eval p.2) := by simp
      simp only [Instr.buildSlice, Sem.run_bind, run_underlying hu, Result.andThen_ok, sizeOf_run P e w (info_of_cells hc2), Sem.run_ite, if_neg (Nat.not_lt.2 hsz)]
      by_cases h0 : len * P.cellsOf e = 0
      · have hlen : len = 0 := by
          rcases Nat.mul_eq_zero.1 h0 with h | h
          · exact h
          · exact absurd h hc2
        subst hlen
        have hp : parts = #[] := Array.eq_empty_of_size_eq_zero hc1
        subst hp
        simp [partCells] at hcs
        subst hcs
        simp only [h0, if_true, Sem.run_pure, Result.andThen_ok]
        have e0 : (Array.range 0) = #[] := Array.eq_empty_of_size_eq_zero (by simp)
        simp [Instr.fill, newRow, e0]
      · simp only [h0, if_false, hzc, Result.andThen_ok, Sem.run_pure]
        simp only [List.nil_append] at hfill
        rw [hparts, harr, hfill]
        simp [newRow]
    · cases hz
  · cases hz

theorem Oper.wp_value {P : Program} {o : Oper} {a : Act} {w w' : World} {K : Act → World → Prop} {Q : Exit → Act → World → Prop} {v : Value} (h : (execOp a.eval o).run P w = .ok (.value v) w') (hk : K (a.put o.dst v) w') : o.wp P a w K Q := by
  unfold Oper.wp
  rw [h]
  exact hk

/-- one operation -/
theorem stepO_soundB (C : Cx) (R : List Res) (ops : Array Oper) (s s' : SS) (hint : Hint) (o : Oper) (obs : List Prop) (wobs : List (Addr × List Value)) (Q : Exit → Act → World → Prop) (K : Act → World → Prop)
    (h : stepO C.P C.n ops s hint o = some (s', obs, wobs)) (ho : AllP obs) (hw : ∀ w, Kp C.m C.w0 w → (∀ r, r ∈ R → r.p w) → AllC w wobs)
    (bs : List Nat) (hK : ∀ bs' a w, bs <+: bs' → SatB C R s' bs' a w → K a w) (a : Act) (w : World) (hs : SatB C R s bs a w) :
    if Region.wanted o (yielded ops a.tmps) then o.wp C.P a w K Q else K (a.put o.dst undef) w := by
  obtain ⟨hf, hn, hS⟩ := hs
  unfold stepO at h
  split at h
  case isFalse => cases h
  rename_i hd
  have hd' : ∀ t, o.dst = some t → t < a.tmps.size := by rw [hn]; exact dstOK_lt hd
  have hsz : ∀ v, (a.put o.dst v).tmps.size = C.n := by
    intro v
    cases o.dst with
    | none => exact hn
    | some t => simp [Act.put, hn]
  split at h
  · cases h
  · rename_i hg
    simp only [Option.some.injEq, Prod.mk.injEq] at h
    obtain ⟨rfl, rfl, rfl⟩ := h
    simp only [gd_sound hf hg, Bool.false_eq_true, if_false]
    exact hK bs _ _ (List.prefix_refl _) ⟨hf.put o.dst (.v undef) hd', hsz _, hS⟩
  · rename_i hg
    simp only [gd_sound hf hg, if_true]
    split at h
    · rename_i T hop
      split at h
      · rename_i z hz
        split at h
        · rename_i hk
          simp only [Option.some.injEq, Prod.mk.injEq] at h
          obtain ⟨rfl, rfl, rfl⟩ := h
          unfold zeroCellsOf at hz
          split at hz
          · rename_i i hi
            split at hz
            · rename_i zv hzv
              injection hz with hz
              have hl := hS.len
              have hrun : (execOp a.eval o).run C.P w = .ok (.value (.pointer (some ⟨w.heap.size, 0, none⟩))) (w.alloc (.cells (((z.map SV.v).map (den bs)).toArray) T)) := by
                have e : ((z.map SV.v).map (den bs)).toArray = zv.cells := by
                  rw [← hz]; simp [Function.comp_def, den]
                rw [e]
                unfold execOp
                rw [hop]
                simp [Instr.alloc, zeroValue, typeInfo, hi, hzv, newVar, newRow]
              refine Oper.wp_value hrun (hK (bs ++ [w.heap.size]) _ _ (List.prefix_append _ _) ⟨?_, hsz _, hS.alloc hk T _ (by simp [okSV])⟩)
              have := (hf.ext hl hk w.heap.size).put o.dst (.p s.loc.length 0) hd'
              have e2 : den (bs ++ [w.heap.size]) (.p s.loc.length 0) = .pointer (some ⟨w.heap.size, 0, none⟩) := by simp [den, adr, hl]
              rwa [e2] at this
            · cases hz
          · cases hz
        · cases h
      · cases h
    · rename_i T X hop
      split at h
      · rename_i x hx
        split at h
        · rename_i cs hcs
          split at h
          · rename_i hk
            simp only [Bool.and_eq_true] at hk
            simp only [Option.some.injEq, Prod.mk.injEq] at h
            obtain ⟨rfl, rfl, rfl⟩ := h
            have hl := hS.len
            have hrun : (execOp a.eval o).run C.P w = .ok (.value (.pointer (some ⟨w.heap.size, 0, none⟩))) (w.alloc (.cells ((cs.map (den bs)).toArray) T)) := by
              have e := cellsOfSV_cells bs hcs
              rw [← e]
              unfold execOp
              rw [hop]
              simp [Instr.box, newVar, newRow, ev_sound hf hx]
            refine Oper.wp_value hrun (hK (bs ++ [w.heap.size]) _ _ (List.prefix_append _ _) ⟨?_, hsz _, hS.alloc hk.1 T _ (fun y hy => List.all_eq_true.1 hk.2 y hy)⟩)
            have := (hf.ext hl hk.1 w.heap.size).put o.dst (.p s.loc.length 0) hd'
            have e2 : den (bs ++ [w.heap.size]) (.p s.loc.length 0) = .pointer (some ⟨w.heap.size, 0, none⟩) := by simp [den, adr, hl]
            rwa [e2] at this
          · cases h
        · cases h
      · cases h
    · rename_i T A X hop
      split at h
      · rename_i i off x hA hx
        split at h
        · rename_i b cs hb hcs
          split at h
          · rename_i hc
            obtain ⟨hc1, hc2, hc3, hc4⟩ := hc
            simp only [Option.some.injEq, Prod.mk.injEq] at h
            obtain ⟨rfl, rfl, rfl⟩ := h
            have e := cellsOfSV_cells bs hcs
            obtain ⟨w', h1, h2, h3, h4⟩ := storeCells_ok C.P (bs.getD i 0) b.ty (cs.map (den bs)) 0 off w (b.cs.map (den bs)) (flatCells_one bs hc4) (hS.loc i b hb (by rintro e9; simp only [e9, List.length_nil] at hc3; omega)) (by simpa using hc3)
            have hrun : (execOp a.eval o).run C.P w = .ok .skip w' := by
              unfold execOp
              rw [hop]
              have e3 : (den bs x).cells.size = C.P.cellsOf T := by rw [← Array.length_toList, e]; simpa using hc1
              have e4 : a.eval A = .pointer (some ⟨bs.getD i 0, off, none⟩) := ev_sound hf hA
              have e5 := ev_sound hf hx
              simp only [Sem.run_bind, Instr.storeAt, Instr.sureAddr, Sem.run_pure, Result.andThen_ok, storeVar, e5, e3, sizeOf_run C.P T w (info_of_cells hc2), ne_eq, not_true_eq_false, if_false, e, e4]
              rw [h1]
              rfl
            have hres : (setAt (b.cs.map (den bs)) (off + 0) (cs.map (den bs))) = (setAt b.cs off cs).map (den bs) := by
              simp [setAt, List.map_take, List.map_drop]
            rw [hres] at h2
            unfold Oper.wp
            rw [hrun]
            exact hK bs _ _ (List.prefix_refl _) ⟨hf.put o.dst (.v undef) hd', hsz _, hS.set i b hb _ h2 h3 h4⟩
          · cases h
        · cases h
      · cases h
    · rename_i T len parts hop
      split at h
      · rename_i e hu
        split at h
        · rename_i cs hcs
          split at h
          · rename_i hc
            obtain ⟨hc1, hc2, hc3, hc4, hc5, hc6, hc7⟩ := hc
            simp only [Option.some.injEq, Prod.mk.injEq] at h
            obtain ⟨rfl, rfl, rfl⟩ := h
            have hl := hS.len
            have hrun : (execOp a.eval o).run C.P w = .ok (.value (.slice (some ⟨w.heap.size, 0, none⟩) len len)) (w.alloc (.cells ((cs.map (den bs)).toArray) e)) := by
              have := buildSlice_run C.P T e len hu hc2 hc3 hc4 hc5 bs s a hf parts cs hcs hc1 w
              unfold execOp
              rw [hop]
              simp only [Sem.run_bind, this, Result.andThen_ok, Sem.run_pure]
            refine Oper.wp_value hrun (hK (bs ++ [w.heap.size]) _ _ (List.prefix_append _ _) ⟨?_, hsz _, hS.alloc hc6 e _ (fun y hy => List.all_eq_true.1 hc7 y hy)⟩)
            have := (hf.ext hl hc6 w.heap.size).put o.dst (.s s.loc.length 0 len len) hd'
            have e2 : den (bs ++ [w.heap.size]) (.s s.loc.length 0 len len) = .slice (some ⟨w.heap.size, 0, none⟩) len len := by simp [den, adr, hl]
            rwa [e2] at this
          · cases h
        · cases h
      · cases h
    · split at h
      · rename_i x obs' wobs' hq
        simp only [Option.some.injEq, Prod.mk.injEq] at h
        obtain ⟨rfl, rfl, rfl⟩ := h
        have hrun := quiet_sound C.P o s hint x _ _ bs a w hq ho hf hS.loc (hw w hS.kp hS.res)
        exact Oper.wp_value hrun (hK bs _ _ (List.prefix_refl _) ⟨hf.put o.dst x hd', hsz _, hS⟩)
      · cases h

theorem stepO_sound (C : Cx) (R : List Res) (ops : Array Oper) (s s' : SS) (hint : Hint) (o : Oper) (obs : List Prop) (wobs : List (Addr × List Value)) (Q : Exit → Act → World → Prop) (K : Act → World → Prop)
    (h : stepO C.P C.n ops s hint o = some (s', obs, wobs)) (ho : AllP obs) (hw : ∀ w, Kp C.m C.w0 w → (∀ r, r ∈ R → r.p w) → AllC w wobs)
    (hK : ∀ a w, Sat C R s' a w → K a w) (a : Act) (w : World) (hs : Sat C R s a w) :
    if Region.wanted o (yielded ops a.tmps) then o.wp C.P a w K Q else K (a.put o.dst undef) w :=
  let ⟨bs, hb⟩ := hs
  stepO_soundB C R ops s s' hint o obs wobs Q K h ho hw bs (fun _ a w _ h => hK a w (Sat.of h)) a w hb

def findH : List (Nat × Hint) → Nat → Hint
  | [], _ => .no
  | (i, h) :: r, k => bif Nat.beq i k then h else findH r k

/-- forget slots and blocks -/
def prune (s : SS) (keys : List Nat) (nl : Nat) : SS := ⟨keepE s.env keys, s.loc.take nl⟩
def okP (s : SS) (nl : Nat) : Bool := s.env.all (fun x => okSV nl x.2) && (s.loc.take nl).all fun b => b.cs.all (okSV nl)

theorem den_take {bs : List Nat} {x : SV} {k : Nat} (_hk : k ≤ bs.length) (h : okSV k x = true) : den (bs.take k) x = den bs x := by
  have key : ∀ i o, i < k → adr (bs.take k) i o = adr bs i o := by
    intro i o hi
    simp [adr, hi]
  cases x with
  | v x => rfl
  | p i o => simp only [den, key i o (by simpa [okSV] using h)]
  | s i o n c => simp only [den, key i o (by simpa [okSV] using h)]
  | fn f c =>
    simp only [den]
    congr 2
    apply List.map_congr_left
    intro y hy
    have h1 := List.all_eq_true.1 h y hy
    rw [key _ _ (by simpa using h1)]

theorem Sat.prune {C : Cx} {R : List Res} {s : SS} {a : Act} {w : World} (h : Sat C R s a w) (keys : List Nat) (nl : Nat) (hk : okP (prune s keys nl) nl = true) (hn : nl ≤ s.loc.length) : Sat C R (prune s keys nl) a w := by
  obtain ⟨bs, hf, hsz, hS⟩ := h
  have hl := hS.len
  simp only [okP, Bool.and_eq_true, Fw.prune] at hk
  refine ⟨bs.take nl, ⟨hf.1, fun t x hx => ?_⟩, hsz, ?_⟩
  · obtain ⟨u, hu⟩ := get_mem hx
    rw [den_take (by omega) (List.all_eq_true.1 hk.1 _ hu)]
    exact (hf.keep keys).2 t x hx
  · refine ⟨hS.kp, by simp [Fw.prune]; omega, ?_, hS.res, ?_, ?_⟩
    · intro i b hb hne
      simp only [Fw.prune] at hb
      rw [List.getElem?_take] at hb
      split at hb
      · rename_i hi
        have h1 := hS.loc i b hb hne
        have hmem : b ∈ s.loc.take nl := by
          apply List.mem_of_getElem? (i := i)
          rw [List.getElem?_take, if_pos hi]
          exact hb
        have hd : b.cs.map (den (bs.take nl)) = b.cs.map (den bs) := List.map_congr_left fun x hx => den_take (by omega) (List.all_eq_true.1 (List.all_eq_true.1 hk.2 b (by rw [List.take_take, Nat.min_self]; exact hmem)) x hx)
        have hb2 : (bs.take nl).getD i 0 = bs.getD i 0 := by simp [hi]
        rw [hb2, hd]
        exact h1
      · cases hb
    · have h1 := List.nodup_append.1 hS.nd
      exact List.nodup_append.2 ⟨h1.1.sublist (List.take_sublist _ _), h1.2.1, fun x hx y hy => h1.2.2 x (List.mem_of_mem_take hx) y hy⟩
    · intro b hb
      rcases List.mem_append.1 hb with hb | hb
      · exact hS.lo b (List.mem_append_left _ (List.mem_of_mem_take hb))
      · exact hS.lo b (List.mem_append_right _ hb)

end Go.Proofs.YtbjakddkfgjkaaaGreat.Fw

