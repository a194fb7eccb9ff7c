/-
  Rows of the call's own that are written, cut and cleared; calls that turn what is known; blocks of others.
  Conditions: none beyond those that each theorem states.
-/
import Derived.LoopN
import Derived.Lib.AppendZerosOnto
import Derived.Lib.Overlaps
import Derived.Test.YtakdjdfkdbofoaaFc
set_option linter.unusedVariables false
set_option linter.unusedSimpArgs false
namespace Go.Proofs.Ytakdjdfkdbofoaa.Fw
open Go.RowKit

/-! ### loops turned out -/
/-! ### rows as raw blocks -/
/-- where a row begins -/
abbrev oad (A : Option Addr) : Addr := A.getD ⟨0, 0, none⟩
theorem addr_add (a : Addr) (i j : Nat) : (a.add i).add j = a.add (i + j) := by
  by_cases h1 : i = 0
  · subst h1; simp [Addr.add]
  · by_cases h2 : j = 0
    · subst h2; simp [Addr.add]
    · have h3 : ¬ i + j = 0 := by omega
      simp [Addr.add, h1, h2, Nat.add_assoc]

/-! ### elements of a row -/
theorem getD_some {α : Type} [Inhabited α] {L : List α} {i : Nat} (hi : i < L.length) : L[i]? = some (L.getD i default) := by
  rw [List.getD_eq_getElem?_getD, List.getElem?_eq_getElem hi]; rfl
theorem rowA_own {α : Type} [Lay α] {e : Nat} {A : Option Addr} {c : Nat} {L : List α} {w : World} (h : (rowA e A c L).p w) {i : Nat} (hi : i < L.length) : A = some (oad A) := by
  obtain ⟨_, _, h3⟩ := rowA_get h
  obtain ⟨g, rfl, _⟩ := h3 i _ (getD_some hi)
  rfl
theorem rowA_nc {α : Type} [Lay α] {e : Nat} {A : Option Addr} {c : Nat} {L : List α} {w : World} (h : (rowA e A c L).p w) : L.length ≤ c ∧ c ≤ 9223372036854775807 := by
  obtain ⟨h1, h2, _⟩ := rowA_get h
  exact ⟨h1, by unfold maxLen at h2; omega⟩
/-- what is known of a row's place, in every world -/
def RowOk {α : Type} (A : Option Addr) (c : Nat) (L : List α) : Prop := (∀ i, i < L.length → A = some (oad A)) ∧ L.length ≤ c ∧ c ≤ 9223372036854775807
theorem rowA_rok {α : Type} [Lay α] {e : Nat} {A : Option Addr} {c : Nat} {L : List α} {w : World} (h : (rowA e A c L).p w) : RowOk A c L := ⟨fun _ hi => rowA_own h hi, rowA_nc h⟩

/-! ### parts of what is owned -/
theorem mem_of_getD {α : Type} [Inhabited α] {L : List α} {i : Nat} (hi : i < L.length) : L.getD i default ∈ L := List.mem_of_getElem? (getD_some hi)
/-! ### calls that turn blocks of ours -/
/-- what such a call gives, out of what is known at its end -/
def Turned (r0 : Res) (w w' : World) (r : Res) : Prop := Kp r0.fp w w' ∧ r.p w' ∧ r.fp.Nodup ∧ ∀ b, b ∈ r.fp → b ∈ r0.fp ∨ (w.heap.size ≤ b ∧ b < w'.heap.size)
theorem WS.turned {w0 : World} {bs : List Nat} {loc : List Blk} {R : List Res} {w : World} {r0 r : Res} (h : WS r0.fp w0 bs loc (r :: R) w) : Turned r0 w0 w r := by
  have h2 := h.sub (R' := [r]) (List.Sublist.cons_cons _ (List.nil_sublist _))
  refine ⟨h.kp, h.res _ (.head _), ?_, fun b hb => ?_⟩
  · have := (List.nodup_append.1 h2.nd).2.1
    simpa using this
  · have := h2.lo b (by simp [hb])
    rcases this.1 with h3 | h3
    · exact .inr ⟨h3, this.2⟩
    · exact .inl h3
theorem WS.start1 (w : World) (r : Res) (hp : r.p w) (hn : r.fp.Nodup) (hl : ∀ b, b ∈ r.fp → b < w.heap.size) : WS r.fp w [] [] [r] w := ⟨Kp.refl _ _, rfl, fun i b hb => by simp at hb, fun x hx => by rw [List.mem_singleton] at hx; subst hx; exact hp, by simpa using hn, fun b hb => by
  have hb' : b ∈ r.fp := by simpa using hb
  exact ⟨.inr hb', hl b hb'⟩⟩
end Go.Proofs.Ytakdjdfkdbofoaa.Fw
namespace Go.Proofs.Ytakdjdfkdbofoaa.Fw
open Go.RowKit
end Go.Proofs.Ytakdjdfkdbofoaa.Fw

namespace Go.Proofs.Ytakdjdfkdbofoaa.Fw
open Go.RowKit

/-! ### things without what lies behind their slices -/
structure Fl (α : Type) where
  v : α
  deriving Inhabited
instance {α : Type} [Lay α] : Lay (Fl α) where
  size := Lay.size α
  bytes := Lay.bytes α
  pos := Lay.pos
  cells x := Lay.cells x.v
  len x := Lay.len x.v
  one x := Lay.one x.v
  sub _ _ _ := True
  stay _ _ := trivial
  wide _ _ := trivial
  ok _ := True
  okof _ := trivial
  small _ := True
abbrev fls {α : Type} (L : List α) : List (Fl α) := L.map Fl.mk
theorem Sl.rd.fl {α : Type} [Lay α] {B : Nat → Prop} {w : World} {s : Sl α} (h : s.rd B w) : Sl.rd B w (⟨s.A, s.c, fls s.xs⟩ : Sl (Fl α)) := by
  refine ⟨by simpa [Sl.n] using h.1, h.2.1, fun i x hx => ?_⟩
  simp only [fls, List.getElem?_map] at hx
  cases hy : s.xs[i]? with
  | none => rw [hy] at hx; cases hx
  | some y =>
    rw [hy] at hx
    simp only [Option.map_some, Option.some.injEq] at hx
    subst hx
    exact ⟨(h.2.2 i y hy).1, trivial⟩
/-! ### rows of things as raw blocks -/
/-- slices of a row, from a place on -/
def offA (A : Option Addr) (c o size : Nat) : Option Addr := if c = o then A else A.map (·.add (o * size))
end Go.Proofs.Ytakdjdfkdbofoaa.Fw
namespace Go.Proofs.Ytakdjdfkdbofoaa.Fw
open Go.RowKit
end Go.Proofs.Ytakdjdfkdbofoaa.Fw
namespace Go.Proofs.Ytakdjdfkdbofoaa.Fw
open Go.RowKit
end Go.Proofs.Ytakdjdfkdbofoaa.Fw
namespace Go.Proofs.Ytakdjdfkdbofoaa.Fw
open Go.RowKit
/-- a block of somebody else's, as it is -/
def blkR (b ty : Nat) (vs : List Value) : Res := ⟨[b], fun w => w.heap[b]? = some (.cells vs.toArray ty (0, 0)), fun h p => by rw [h b (by simp)]; exact p⟩
end Go.Proofs.Ytakdjdfkdbofoaa.Fw

namespace Go.Proofs.Ytakdjdfkdbofoaa.Fw
open Go.RowKit
end Go.Proofs.Ytakdjdfkdbofoaa.Fw
namespace Go.Proofs.Ytakdjdfkdbofoaa.Fw
end Go.Proofs.Ytakdjdfkdbofoaa.Fw
namespace Go.Proofs.Ytakdjdfkdbofoaa.Fw
open Go.RowKit
end Go.Proofs.Ytakdjdfkdbofoaa.Fw
namespace Go.Proofs.Ytakdjdfkdbofoaa.Fw
open Go.RowKit
theorem d_appendA {α : Type} [Lay α] {C : Cx} {R' : List Res} {s : SS} {d : Option Nat} {ty : Nat} {pos : String} {aft : Array Edge} {g : Option (Nat × Bool)} {X1 X2 : Operand} {t : Nat} (e bytes : Nat)
    (A : Option Addr) (c : Nat) (L : List α) (x2 : SV) (L2 : List α) (ht : C.P.underlying t = some (.slice e)) (hi : infoB C.P e (Lay.size α) bytes = true)
    (h1 : ev s X1 = some (.v (.slice A L.length c))) (h2 : ev s X2 = some x2) (hsrc : ∀ bs w, WS C.m C.w0 bs s.loc (rowA e A c L :: R') w → ∃ A2 c2, den bs x2 = .slice A2 L2.length c2 ∧ SrcAt w A2 L2.length (L2.flatMap Lay.cells))
    (h63 : L.length + L2.length ≤ 9223372036854775807) (hb : (L.length + L2.length) * bytes ≤ 140737488355328) :
    Does C ⟨d, .call ⟨.builtin .append, #[X1, X2], #[t, t]⟩, ty, pos, aft, g⟩ (rowA e A c L :: R') s (σ := Option Addr × Nat) (fun y => .v (.slice y.1 (L ++ L2).length y.2)) (fun _ => s.loc) (fun y => rowA e y.1 y.2 (L ++ L2) :: R') := by
  refine d_builtin (σ := Option Addr × Nat) [.v (.slice A L.length c), x2] _ _ _ (by simp [evs, h1, h2]) fun bs w cs hS => ?_
  obtain ⟨A2, c2, hx, hc⟩ := hsrc bs w hS
  have e1 : ([SV.v (.slice A L.length c), x2].map (den bs)) = [Value.slice A L.length c, .slice A2 L2.length c2] := by rw [List.map_cons, List.map_cons, hx]; rfl
  rw [e1]
  simp only [builtin, Sem.run_bind]
  cases A2 with
  | some a =>
    obtain ⟨A', c', w', h3, h4⟩ := append_run t ty e (Lay.size α) bytes A L.length c (L.flatMap Lay.cells) hS ht hi Lay.pos a L2.length c2 (L2.flatMap Lay.cells) (flat_len L2) hc (flat_one L2) (by unfold maxLen; omega) hb
    rw [← List.flatMap_append, ← List.length_append] at h4
    refine ⟨(A', c'), w', ?_, h4⟩
    rw [h3, List.length_append]
    rfl
  | none =>
    have hk : L2.length = 0 := hc
    have hv : L2 = [] := List.eq_nil_of_length_eq_zero hk
    subst hv
    have hnc : L.length ≤ c := (rowA_get (hS.res _ (.head _))).1
    refine ⟨(A, c), w, ?_, ?_⟩
    · rw [show (([] : List α).length) = 0 from rfl, append_nil_run t ty e A L.length c c2 ht (by
        unfold infoB at hi
        split at hi
        · rename_i i h; simp [h]
        · cases hi) hnc]
      simp [den]
    · rw [List.append_nil]; exact hS
end Go.Proofs.Ytakdjdfkdbofoaa.Fw
namespace Go.Proofs.Ytakdjdfkdbofoaa.Fw
open Go.RowKit
theorem CellsAt.kp {w0 w : World} {a : Addr} {vs : List Value} (h : CellsAt w0 a vs) (k : Kp [] w0 w) : CellsAt w a vs := h.same fun hlt => k.block _ hlt (by simp)
/-- a part of a slice that reads -/
theorem CellsAt.take {w : World} {a : Addr} {vs : List Value} (h : CellsAt w a vs) (n : Nat) : CellsAt w a (vs.take n) := fun j v hj => by
  rw [List.getElem?_take] at hj
  split at hj
  · exact h j v hj
  · cases hj
end Go.Proofs.Ytakdjdfkdbofoaa.Fw
namespace Go.Proofs.Ytakdjdfkdbofoaa.Fw
open Go.RowKit
theorem getD_set_ne {α : Type} [Inhabited α] {L : List α} {i j : Nat} {x : α} (h : ¬ i = j) : (L.set i x).getD j default = L.getD j default := by
  rw [List.getD_eq_getElem?_getD, List.getD_eq_getElem?_getD, List.getElem?_set_ne h]
end Go.Proofs.Ytakdjdfkdbofoaa.Fw
namespace Go.Proofs.Ytakdjdfkdbofoaa.Fw
open Go.RowKit
theorem SrcAt.kp {w0 w : World} {A : Option Addr} {n : Nat} {vs : List Value} (h : SrcAt w0 A n vs) (k : Kp [] w0 w) : SrcAt w A n vs := by
  cases A with
  | none => exact h
  | some a => exact CellsAt.kp h k
/-! ### more rules in drawn regions -/
end Go.Proofs.Ytakdjdfkdbofoaa.Fw
namespace Go.Proofs.Ytakdjdfkdbofoaa.Fw
open Go.RowKit
end Go.Proofs.Ytakdjdfkdbofoaa.Fw
namespace Go.Proofs.Ytakdjdfkdbofoaa.Fw
open Go.RowKit
end Go.Proofs.Ytakdjdfkdbofoaa.Fw

namespace Go.Proofs.Ytakdjdfkdbofoaa.Fw
open Go.RowKit
/-! ### a row of ours as a raw block -/
/-! ### 'copy(d, s)' onto a raw block of ours -/
/-! ### 'append(s[:i], make(S, k)...)' that grows -/
/-! ### a function without a body, that looks at the world -/
end Go.Proofs.Ytakdjdfkdbofoaa.Fw
namespace Go.Proofs.Ytakdjdfkdbofoaa.Fw
open Go.RowKit
/-! ### stores into rows of ours, in a region that draws -/
end Go.Proofs.Ytakdjdfkdbofoaa.Fw

namespace Go.Proofs.Ytakdjdfkdbofoaa.Fw
open Go.RowKit
/-! ### calls in regions that draw: blocks turned, and something new besides -/
/-- what a call that turns the fact at the head, and hands back something new, gives -/
def TurnedN (r0 : Res) (w w' : World) (r rn : Res) : Prop := Turned r0 w w' r ∧ rn.p w' ∧ rn.fp.Nodup ∧ (∀ b, b ∈ rn.fp → w.heap.size ≤ b ∧ b < w'.heap.size) ∧ ∀ b, b ∈ rn.fp → b ∉ r.fp
theorem TurnedN.as {r0 r rn rn' : Res} {w w' : World} (h : TurnedN r0 w w' r rn) (hp : rn.p w' → rn'.p w') (hf : rn'.fp = rn.fp) : TurnedN r0 w w' r rn' := by
  obtain ⟨h1, h2, h3, h4, h5⟩ := h
  exact ⟨h1, hp h2, by rw [hf]; exact h3, fun b hb => h4 b (by rw [← hf]; exact hb), fun b hb => h5 b (by rw [← hf]; exact hb)⟩
end Go.Proofs.Ytakdjdfkdbofoaa.Fw

