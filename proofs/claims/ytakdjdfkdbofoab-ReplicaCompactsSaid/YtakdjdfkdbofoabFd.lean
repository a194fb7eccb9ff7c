/-
  Rows of the call's own that are written, cut and cleared; calls that turn what is known; blocks of others.
  Conditions: none beyond those that each theorem states.
-/
import Derived.LoopN
import Derived.Lib.AppendZerosOnto
import Derived.Lib.Overlaps
import Derived.Test.YtakdjdfkdbofoabFc
set_option linter.unusedVariables false
set_option linter.unusedSimpArgs false
namespace Go.Proofs.Ytakdjdfkdbofoab.Fw
open Go.RowKit

/-! ### loops turned out -/
theorem c_unroll {C : Cx} {R : List Res} {s : SS} {Q : Exit → Act → World → Prop} {c : Code} {n : Nat} (h : JC C c (Exit.then (Code.rounds C.P c Q n) Q) R s) : JC C (.loop c) Q R s := fun a w hs => wp_loop_rounds (n + 1) (h a w hs)
theorem q_round {C : Cx} {R : List Res} {s : SS} {Q : Exit → Act → World → Prop} {c : Code} {n : Nat} (h : JC C c (Exit.then (Code.rounds C.P c Q n) Q) R s) : JQ C (Exit.then (Code.rounds C.P c Q (n + 1)) Q) .normal R s := fun a w hs => h a w hs

/-! ### rows as raw blocks -/
theorem addr_at (g k : Nat) : (⟨g, 0, none⟩ : Addr).add k = ⟨g, k, none⟩ := by unfold Addr.add; split <;> simp_all
theorem addr_add (a : Addr) (i j : Nat) : (a.add i).add j = a.add (i + j) := by
  by_cases h1 : i = 0
  · subst h1; simp [Addr.add]
  · by_cases h2 : j = 0
    · subst h2; simp [Addr.add]
    · have h3 : ¬ i + j = 0 := by omega
      simp [Addr.add, h1, h2, Nat.add_assoc]

/-! ### elements of a row -/
theorem getD_some {α : Type} [Inhabited α] {L : List α} {i : Nat} (hi : i < L.length) : L[i]? = some (L.getD i default) := by
  rw [List.getD_eq_getElem?_getD, List.getElem?_eq_getElem hi]; rfl
/-! ### parts of what is owned -/
theorem mem_of_getD {α : Type} [Inhabited α] {L : List α} {i : Nat} (hi : i < L.length) : L.getD i default ∈ L := List.mem_of_getElem? (getD_some hi)
/-! ### calls that turn blocks of ours -/
/-- only the block of a pointer has turned; something new besides -/
theorem WS.blkNew {m : List Nat} {w0 : World} {bs : List Nat} {loc : List Blk} {R : List Res} {w w' : World} (h : WS m w0 bs loc R w) (i : Nat) (b : Blk) (hb : loc[i]? = some b) (cs : List SV) (k : Kp [bs.getD i 0] w w') (hw : w'.heap[bs.getD i 0]? = some (.cells (cs.map (den bs)).toArray b.ty (0, 0))) (r : Res) (hr : Fresh w w' r) :
    WS m w0 bs (loc.set i ⟨b.ty, cs⟩) (r :: R) w' := by
  refine (h.blk i b hb cs k hw).new r hr.1 hr.2.1 fun x hx => ?_
  have h3 := hr.2.2 x hx
  refine ⟨.inl (Nat.le_trans h.kp.size h3.1), h3.2, fun hm => ?_⟩
  have := (h.lo x hm).2
  omega
/-- what such a call gives, out of what is known at its end -/
def Turned (r0 : Res) (w w' : World) (r : Res) : Prop := Kp r0.fp w w' ∧ r.p w' ∧ r.fp.Nodup ∧ ∀ b, b ∈ r.fp → b ∈ r0.fp ∨ (w.heap.size ≤ b ∧ b < w'.heap.size)
theorem WS.turned {w0 : World} {bs : List Nat} {loc : List Blk} {R : List Res} {w : World} {r0 r : Res} (h : WS r0.fp w0 bs loc (r :: R) w) : Turned r0 w0 w r := by
  have h2 := h.sub (R' := [r]) (List.Sublist.cons_cons _ (List.nil_sublist _))
  refine ⟨h.kp, h.res _ (.head _), ?_, fun b hb => ?_⟩
  · have := (List.nodup_append.1 h2.nd).2.1
    simpa using this
  · have := h2.lo b (by simp [hb])
    rcases this.1 with h3 | h3
    · exact .inr ⟨h3, this.2⟩
    · exact .inl h3
theorem WS.start1 (w : World) (r : Res) (hp : r.p w) (hn : r.fp.Nodup) (hl : ∀ b, b ∈ r.fp → b < w.heap.size) : WS r.fp w [] [] [r] w := ⟨Kp.refl _ _, rfl, fun i b hb => by simp at hb, fun x hx => by rw [List.mem_singleton] at hx; subst hx; exact hp, by simpa using hn, fun b hb => by
  have hb' : b ∈ r.fp := by simpa using hb
  exact ⟨.inr hb', hl b hb'⟩⟩
end Go.Proofs.Ytakdjdfkdbofoab.Fw
namespace Go.Proofs.Ytakdjdfkdbofoab.Fw
open Go.RowKit
end Go.Proofs.Ytakdjdfkdbofoab.Fw

namespace Go.Proofs.Ytakdjdfkdbofoab.Fw
open Go.RowKit

/-! ### things without what lies behind their slices -/
structure Fl (α : Type) where
  v : α
  deriving Inhabited
instance {α : Type} [Lay α] : Lay (Fl α) where
  size := Lay.size α
  bytes := Lay.bytes α
  pos := Lay.pos
  cells x := Lay.cells x.v
  len x := Lay.len x.v
  one x := Lay.one x.v
  sub _ _ _ := True
  stay _ _ := trivial
  wide _ _ := trivial
  ok _ := True
  okof _ := trivial
  small _ := True
abbrev fls {α : Type} (L : List α) : List (Fl α) := L.map Fl.mk
theorem Sl.rd.fl {α : Type} [Lay α] {B : Nat → Prop} {w : World} {s : Sl α} (h : s.rd B w) : Sl.rd B w (⟨s.A, s.c, fls s.xs⟩ : Sl (Fl α)) := by
  refine ⟨by simpa [Sl.n] using h.1, h.2.1, fun i x hx => ?_⟩
  simp only [fls, List.getElem?_map] at hx
  cases hy : s.xs[i]? with
  | none => rw [hy] at hx; cases hx
  | some y =>
    rw [hy] at hx
    simp only [Option.map_some, Option.some.injEq] at hx
    subst hx
    exact ⟨(h.2.2 i y hy).1, trivial⟩
/-! ### rows of things as raw blocks -/
theorem flat_drop {α : Type} [Lay α] : ∀ (L : List α) (k : Nat), (L.flatMap Lay.cells).drop (k * Lay.size α) = (L.drop k).flatMap Lay.cells
  | [], k => by simp
  | x :: r, 0 => by simp
  | x :: r, k + 1 => by
    have ih := flat_drop r k
    have hx := Lay.len x
    simp only [List.flatMap_cons, List.drop_succ_cons]
    rw [← ih, Nat.succ_mul, List.drop_append, List.drop_eq_nil_of_le (by omega), hx]
    simp only [List.nil_append]
    congr 1
    omega
/-- slices of a row, from a place on -/
def offA (A : Option Addr) (c o size : Nat) : Option Addr := if c = o then A else A.map (·.add (o * size))
end Go.Proofs.Ytakdjdfkdbofoab.Fw
namespace Go.Proofs.Ytakdjdfkdbofoab.Fw
open Go.RowKit
end Go.Proofs.Ytakdjdfkdbofoab.Fw
namespace Go.Proofs.Ytakdjdfkdbofoab.Fw
open Go.RowKit
end Go.Proofs.Ytakdjdfkdbofoab.Fw
namespace Go.Proofs.Ytakdjdfkdbofoab.Fw
open Go.RowKit
/-- a block of somebody else's, as it is -/
def blkR (b ty : Nat) (vs : List Value) : Res := ⟨[b], fun w => w.heap[b]? = some (.cells vs.toArray ty (0, 0)), fun h p => by rw [h b (by simp)]; exact p⟩
theorem blkR_at {b ty : Nat} {vs : List Value} {w : World} (h : (blkR b ty vs).p w) : CellsAt w ⟨b, 0, none⟩ vs := fun j v hj => by
  have h' : w.heap[b]? = some (.cells vs.toArray ty (0, 0)) := h
  rw [addr_at]
  simp only [World.cell?, h']
  simpa using hj
theorem blkR_lt {b ty : Nat} {vs : List Value} {w : World} (h : (blkR b ty vs).p w) : ∀ x, x ∈ (blkR b ty vs).fp → x < w.heap.size := fun x hx => by
  have hx' : x = b := by simpa [blkR] using hx
  subst hx'
  have h' : w.heap[x]? = some (.cells vs.toArray ty (0, 0)) := h
  rcases Nat.lt_or_ge x w.heap.size with h1 | h1
  · exact h1
  · rw [Array.getElem?_eq_none h1] at h'; cases h'
end Go.Proofs.Ytakdjdfkdbofoab.Fw

namespace Go.Proofs.Ytakdjdfkdbofoab.Fw
open Go.RowKit
/-- a store into a block that is known as a fact -/
theorem blkR_write {P : Program} {b ty : Nat} {vs : List Value} {w : World} (h : (blkR b ty vs).p w) (off : Nat) (us : List Value) (h1 : ∀ v, v ∈ us → v.oneCell' = true) (hfit : off + us.length ≤ vs.length) :
    ∃ w', (storeCells ⟨b, off, none⟩ us).run P w = .ok () w' ∧ Kp [b] w w' ∧ (blkR b ty (setAt vs off us)).p w' := by
  obtain ⟨w', h2, h3, h4, _⟩ := storeCells_ok P b ty us 0 off w vs h1 h (by simpa using hfit)
  exact ⟨w', h2, h4, h3⟩
end Go.Proofs.Ytakdjdfkdbofoab.Fw
namespace Go.Proofs.Ytakdjdfkdbofoab.Fw
end Go.Proofs.Ytakdjdfkdbofoab.Fw
namespace Go.Proofs.Ytakdjdfkdbofoab.Fw
open Go.RowKit
end Go.Proofs.Ytakdjdfkdbofoab.Fw
namespace Go.Proofs.Ytakdjdfkdbofoab.Fw
open Go.RowKit
theorem d_appendA {α : Type} [Lay α] {C : Cx} {R' : List Res} {s : SS} {d : Option Nat} {ty : Nat} {pos : String} {aft : Array Edge} {g : Option (Nat × Bool)} {X1 X2 : Operand} {t : Nat} (e bytes : Nat)
    (A : Option Addr) (c : Nat) (L : List α) (x2 : SV) (L2 : List α) (ht : C.P.underlying t = some (.slice e)) (hi : infoB C.P e (Lay.size α) bytes = true)
    (h1 : ev s X1 = some (.v (.slice A L.length c))) (h2 : ev s X2 = some x2) (hsrc : ∀ bs w, WS C.m C.w0 bs s.loc (rowA e A c L :: R') w → ∃ A2 c2, den bs x2 = .slice A2 L2.length c2 ∧ SrcAt w A2 L2.length (L2.flatMap Lay.cells))
    (h63 : L.length + L2.length ≤ 9223372036854775807) (hb : (L.length + L2.length) * bytes ≤ 140737488355328) :
    Does C ⟨d, .call ⟨.builtin .append, #[X1, X2], #[t, t]⟩, ty, pos, aft, g⟩ (rowA e A c L :: R') s (σ := Option Addr × Nat) (fun y => .v (.slice y.1 (L ++ L2).length y.2)) (fun _ => s.loc) (fun y => rowA e y.1 y.2 (L ++ L2) :: R') := by
  refine d_builtin (σ := Option Addr × Nat) [.v (.slice A L.length c), x2] _ _ _ (by simp [evs, h1, h2]) fun bs w cs hS => ?_
  obtain ⟨A2, c2, hx, hc⟩ := hsrc bs w hS
  have e1 : ([SV.v (.slice A L.length c), x2].map (den bs)) = [Value.slice A L.length c, .slice A2 L2.length c2] := by rw [List.map_cons, List.map_cons, hx]; rfl
  rw [e1]
  simp only [builtin, Sem.run_bind]
  cases A2 with
  | some a =>
    obtain ⟨A', c', w', h3, h4⟩ := append_run t ty e (Lay.size α) bytes A L.length c (L.flatMap Lay.cells) hS ht hi Lay.pos a L2.length c2 (L2.flatMap Lay.cells) (flat_len L2) hc (flat_one L2) (by unfold maxLen; omega) hb
    rw [← List.flatMap_append, ← List.length_append] at h4
    refine ⟨(A', c'), w', ?_, h4⟩
    rw [h3, List.length_append]
    rfl
  | none =>
    have hk : L2.length = 0 := hc
    have hv : L2 = [] := List.eq_nil_of_length_eq_zero hk
    subst hv
    have hnc : L.length ≤ c := (rowA_get (hS.res _ (.head _))).1
    refine ⟨(A, c), w, ?_, ?_⟩
    · rw [show (([] : List α).length) = 0 from rfl, append_nil_run t ty e A L.length c c2 ht (by
        unfold infoB at hi
        split at hi
        · rename_i i h; simp [h]
        · cases hi) hnc]
      simp [den]
    · rw [List.append_nil]; exact hS
end Go.Proofs.Ytakdjdfkdbofoab.Fw
namespace Go.Proofs.Ytakdjdfkdbofoab.Fw
open Go.RowKit
theorem CellsAt.kp {w0 w : World} {a : Addr} {vs : List Value} (h : CellsAt w0 a vs) (k : Kp [] w0 w) : CellsAt w a vs := h.same fun hlt => k.block _ hlt (by simp)
/-- a part of a slice that reads -/
theorem CellsAt.take {w : World} {a : Addr} {vs : List Value} (h : CellsAt w a vs) (n : Nat) : CellsAt w a (vs.take n) := fun j v hj => by
  rw [List.getElem?_take] at hj
  split at hj
  · exact h j v hj
  · cases hj
theorem Sl.rd.srcDrop {α : Type} [Lay α] {B : Nat → Prop} {w : World} {s : Sl α} (h : s.rd B w) {j : Nat} (hj : j ≤ s.n) : SrcAt w (offA s.A s.c j (Lay.size α)) (s.n - j) ((s.xs.drop j).flatMap Lay.cells) := by
  have h1 := h.src
  cases hA : s.A with
  | none =>
    rw [hA] at h1
    have h2 : s.n = 0 := h1
    have : offA none s.c j (Lay.size α) = none := by unfold offA; split <;> rfl
    rw [this]
    show s.n - j = 0
    omega
  | some a =>
    rw [hA] at h1
    have h2 : CellsAt w a (s.xs.flatMap Lay.cells) := h1
    unfold offA
    split
    · have h3 : s.n ≤ s.c := h.1
      have h4 : (s.xs.drop j) = [] := List.drop_eq_nil_of_le (by show s.xs.length ≤ j; have : s.n = s.xs.length := rfl; omega)
      show CellsAt w a _
      rw [h4]
      intro k v hk
      simp at hk
    · show CellsAt w (a.add (j * Lay.size α)) _
      rw [← flat_drop]
      have := h2.part (j * Lay.size α) (s.xs.flatMap Lay.cells).length
      rwa [List.take_of_length_le (by rw [List.length_drop]; omega)] at this
end Go.Proofs.Ytakdjdfkdbofoab.Fw
namespace Go.Proofs.Ytakdjdfkdbofoab.Fw
open Go.RowKit
theorem getD_set_ne {α : Type} [Inhabited α] {L : List α} {i j : Nat} {x : α} (h : ¬ i = j) : (L.set i x).getD j default = L.getD j default := by
  rw [List.getD_eq_getElem?_getD, List.getD_eq_getElem?_getD, List.getElem?_set_ne h]
end Go.Proofs.Ytakdjdfkdbofoab.Fw
namespace Go.Proofs.Ytakdjdfkdbofoab.Fw
open Go.RowKit
theorem SrcAt.kp {w0 w : World} {A : Option Addr} {n : Nat} {vs : List Value} (h : SrcAt w0 A n vs) (k : Kp [] w0 w) : SrcAt w A n vs := by
  cases A with
  | none => exact h
  | some a => exact CellsAt.kp h k
/-! ### more rules in drawn regions -/
end Go.Proofs.Ytakdjdfkdbofoab.Fw
namespace Go.Proofs.Ytakdjdfkdbofoab.Fw
open Go.RowKit
end Go.Proofs.Ytakdjdfkdbofoab.Fw
namespace Go.Proofs.Ytakdjdfkdbofoab.Fw
open Go.RowKit
end Go.Proofs.Ytakdjdfkdbofoab.Fw

namespace Go.Proofs.Ytakdjdfkdbofoab.Fw
open Go.RowKit
/-! ### a row of ours as a raw block -/
/-! ### 'copy(d, s)' onto a raw block of ours -/
/-! ### 'append(s[:i], make(S, k)...)' that grows -/
/-! ### a function without a body, that looks at the world -/
end Go.Proofs.Ytakdjdfkdbofoab.Fw
namespace Go.Proofs.Ytakdjdfkdbofoab.Fw
open Go.RowKit
/-! ### stores into rows of ours, in a region that draws -/
end Go.Proofs.Ytakdjdfkdbofoab.Fw

namespace Go.Proofs.Ytakdjdfkdbofoab.Fw
open Go.RowKit
/-! ### calls in regions that draw: blocks turned, and something new besides -/
/-- what a call that turns the fact at the head, and hands back something new, gives -/
def TurnedN (r0 : Res) (w w' : World) (r rn : Res) : Prop := Turned r0 w w' r ∧ rn.p w' ∧ rn.fp.Nodup ∧ (∀ b, b ∈ rn.fp → w.heap.size ≤ b ∧ b < w'.heap.size) ∧ ∀ b, b ∈ rn.fp → b ∉ r.fp
theorem WS.turnN {m : List Nat} {w0 : World} {bs : List Nat} {loc : List Blk} {R : List Res} {w w' : World} {r0 r rn : Res} (hS : WS m w0 bs loc (r0 :: R) w) (h : TurnedN r0 w w' r rn) : WS m w0 bs loc (rn :: r :: R) w' := by
  obtain ⟨h3, h4, h5, h6, h7⟩ := h
  have hS' := hS.turn h3.1 _ h3.2.1 h3.2.2.1 h3.2.2.2
  refine hS'.new _ h4 h5 fun b hb => ⟨.inl (Nat.le_trans hS.kp.size (h6 b hb).1), (h6 b hb).2, fun hm => ?_⟩
  have h8 := (h6 b hb).1
  rcases List.mem_append.1 hm with hm | hm
  · have := (hS.lo b (List.mem_append_left _ hm)).2; omega
  · rw [List.flatMap_cons] at hm
    rcases List.mem_append.1 hm with hm | hm
    · exact h7 b hb hm
    · have := (hS.lo b (List.mem_append_right _ (by rw [List.flatMap_cons]; exact List.mem_append_right _ hm))).2; omega
/-- what such a call gives, out of what is known at its end: the fact that is turned first -/
theorem WS.turnedN {w0 : World} {bs : List Nat} {loc : List Blk} {Rs : List Res} {w : World} {r0 r : Res} (h : WS r0.fp w0 bs loc (r :: Rs) w) (hf : ∀ b, b ∈ r0.fp → b ∈ r.fp) : TurnedN r0 w0 w r (allR Rs) := by
  have hnd := (List.nodup_append.1 h.nd).2.1
  rw [List.flatMap_cons] at hnd
  refine ⟨h.turned, fun q hq => h.res q (.tail _ hq), (List.nodup_append.1 hnd).2.1, fun b hb => ?_, fun b hb hr => (List.nodup_append.1 hnd).2.2 b hr b hb rfl⟩
  have h1 := h.lo b (List.mem_append_right _ (by rw [List.flatMap_cons]; exact List.mem_append_right _ hb))
  refine ⟨h1.1.resolve_right fun hm => (List.nodup_append.1 hnd).2.2 b (hf b hm) b hb rfl, h1.2⟩
theorem TurnedN.as {r0 r rn rn' : Res} {w w' : World} (h : TurnedN r0 w w' r rn) (hp : rn.p w' → rn'.p w') (hf : rn'.fp = rn.fp) : TurnedN r0 w w' r rn' := by
  obtain ⟨h1, h2, h3, h4, h5⟩ := h
  exact ⟨h1, hp h2, by rw [hf]; exact h3, fun b hb => h4 b (by rw [← hf]; exact hb), fun b hb => h5 b (by rw [← hf]; exact hb)⟩
theorem allR_one (r : Res) (w : World) (h : (allR [r]).p w) : r.p w := h _ (.head _)
theorem allR_one_fp (r : Res) : r.fp = (allR [r]).fp := by simp [allR]
end Go.Proofs.Ytakdjdfkdbofoab.Fw

