/-
  Rows of the call's own that are written, cut and cleared; calls that turn what is known; blocks of others.
  Conditions: none beyond those that each theorem states.
-/
import Derived.LoopN
import Derived.Lib.AppendZerosOnto
import Derived.Lib.Overlaps
import Derived.Test.YtbjakddkfgjkaaaGreatFc
set_option linter.unusedVariables false
set_option linter.unusedSimpArgs false
namespace Go.Proofs.YtbjakddkfgjkaaaGreat.Fw
open Go.RowKit

/-! ### loops turned out -/
theorem c_unroll {C : Cx} {R : List Res} {s : SS} {Q : Exit → Act → World → Prop} {c : Code} {n : Nat} (h : JC C c (Exit.then (Code.rounds C.P c Q n) Q) R s) : JC C (.loop c) Q R s := fun a w hs => wp_loop_rounds (n + 1) (h a w hs)
theorem q_round {C : Cx} {R : List Res} {s : SS} {Q : Exit → Act → World → Prop} {c : Code} {n : Nat} (h : JC C c (Exit.then (Code.rounds C.P c Q n) Q) R s) : JQ C (Exit.then (Code.rounds C.P c Q (n + 1)) Q) .normal R s := fun a w hs => h a w hs

/-! ### rows as raw blocks -/
def rawR (e size g c : Nat) (cur : List Value) : Res where
  fp := [g]
  p := fun w => w.heap[g]? = some (.cells cur.toArray e (0, 0)) ∧ cur.length = c * size ∧ c ≤ maxLen
  st := by
    intro w w' h ⟨h1, h2⟩
    exact ⟨by rw [h g (by simp)]; exact h1, h2⟩
theorem row_raw {e size : Nat} {A : Option Addr} {n c : Nat} {xs : List Value} {w : World} (h : (rowR e size A n c xs).p w) : xs.length = n * size ∧ ((A = none ∧ n = 0 ∧ c = 0) ∨ ∃ g zs, A = some ⟨g, 0, none⟩ ∧ (rawR e size g c (xs ++ zs)).p w ∧ n ≤ c) := by
  have h' : w.ownsRow 0 e size (.slice A n c) n xs := h
  refine ⟨h'.1, ?_⟩
  rcases h'.2 with ⟨e1, e2⟩ | ⟨g, cap, cur, e1, e2, e3, e4, e5, e6, e7⟩
  · injection e1 with e3 e4 e5
    exact .inl ⟨e3, e4, e5⟩
  · injection e1 with e8 _ e9
    subst e8 e9
    refine .inr ⟨g, cur.toList.drop (n * size), rfl, ⟨?_, ?_, e5⟩, e4⟩
    · rw [← e7, List.take_append_drop]; exact e3
    · rw [← e7, List.take_append_drop]; simpa using e6
theorem raw_row {e size g c : Nat} {cur : List Value} {w : World} (h : (rawR e size g c cur).p w) (n : Nat) (hn : n ≤ c) : (rowR e size (some ⟨g, 0, none⟩) n c (cur.take (n * size))).p w := by
  have hl : n * size ≤ cur.length := by rw [h.2.1]; exact Nat.mul_le_mul_right _ hn
  refine ⟨by rw [List.length_take]; exact Nat.min_eq_left hl, .inr ⟨g, c, cur.toArray, rfl, Nat.zero_le _, h.1, hn, h.2.2, by simpa using h.2.1, by simp⟩⟩
theorem raw_write {P : Program} {e size g c : Nat} {cur : List Value} {w : World} (h : (rawR e size g c cur).p w) (o : Nat) (vs : List Value) (h1 : ∀ v, v ∈ vs → v.oneCell' = true) (hfit : o + vs.length ≤ cur.length) :
    ∃ w', (storeCells ⟨g, o, none⟩ vs).run P w = .ok () w' ∧ Kp [g] w w' ∧ (rawR e size g c (setAt cur o vs)).p w' := by
  obtain ⟨w', h2, h3, h4, _⟩ := storeCells_ok P g e vs 0 o w cur h1 h.1 (by simpa using hfit)
  refine ⟨w', h2, h4, h3, ?_, h.2.2⟩
  rw [← h.2.1]
  unfold setAt
  simp only [List.length_append, List.length_take, List.length_drop, Nat.add_zero]
  omega

/-- where a row begins -/
abbrev oad (A : Option Addr) : Addr := A.getD ⟨0, 0, none⟩
theorem addr_at (g k : Nat) : (⟨g, 0, none⟩ : Addr).add k = ⟨g, k, none⟩ := by unfold Addr.add; split <;> simp_all
theorem addr_add (a : Addr) (i j : Nat) : (a.add i).add j = a.add (i + j) := by
  by_cases h1 : i = 0
  · subst h1; simp [Addr.add]
  · by_cases h2 : j = 0
    · subst h2; simp [Addr.add]
    · have h3 : ¬ i + j = 0 := by omega
      simp [Addr.add, h1, h2, Nat.add_assoc]

/-! ### elements of a row -/
theorem getD_some {α : Type} [Inhabited α] {L : List α} {i : Nat} (hi : i < L.length) : L[i]? = some (L.getD i default) := by
  rw [List.getD_eq_getElem?_getD, List.getElem?_eq_getElem hi]; rfl
theorem rowA_own {α : Type} [Lay α] {e : Nat} {A : Option Addr} {c : Nat} {L : List α} {w : World} (h : (rowA e A c L).p w) {i : Nat} (hi : i < L.length) : A = some (oad A) := by
  obtain ⟨_, _, h3⟩ := rowA_get h
  obtain ⟨g, rfl, _⟩ := h3 i _ (getD_some hi)
  rfl
theorem rowA_at {α : Type} [Lay α] {e : Nat} {A : Option Addr} {c : Nat} {L : List α} {w : World} (h : (rowA e A c L).p w) {i : Nat} (hi : i < L.length) : CellsAt w ((oad A).add (i * Lay.size α)) (Lay.cells (L.getD i default)) := by
  obtain ⟨_, _, h3⟩ := rowA_get h
  obtain ⟨g, rfl, hc⟩ := h3 i _ (getD_some hi)
  exact hc
theorem rowA_fld {α : Type} [Lay α] {e : Nat} {A : Option Addr} {c : Nat} {L : List α} {w : World} (h : (rowA e A c L).p w) {i : Nat} (hi : i < L.length) (off n : Nat) {vs : List Value} (hv : ((Lay.cells (L.getD i default)).drop off).take n = vs) : CellsAt w (((oad A).add (i * Lay.size α)).add off) vs := by
  subst hv
  exact (rowA_at h hi).part off n
theorem rowA_nc {α : Type} [Lay α] {e : Nat} {A : Option Addr} {c : Nat} {L : List α} {w : World} (h : (rowA e A c L).p w) : L.length ≤ c ∧ c ≤ 9223372036854775807 := by
  obtain ⟨h1, h2, _⟩ := rowA_get h
  exact ⟨h1, by unfold maxLen at h2; omega⟩
/-- what is known of a row's place, in every world -/
def RowOk {α : Type} (A : Option Addr) (c : Nat) (L : List α) : Prop := (∀ i, i < L.length → A = some (oad A)) ∧ L.length ≤ c ∧ c ≤ 9223372036854775807
theorem rowA_rok {α : Type} [Lay α] {e : Nat} {A : Option Addr} {c : Nat} {L : List α} {w : World} (h : (rowA e A c L).p w) : RowOk A c L := ⟨fun _ hi => rowA_own h hi, rowA_nc h⟩

theorem setAt_left {α : Type} (l r : List α) (off : Nat) (vs : List α) (h : off + vs.length ≤ l.length) : setAt (l ++ r) off vs = setAt l off vs ++ r := by
  unfold setAt
  rw [List.take_append_of_le_length (by omega), List.drop_append_of_le_length h]
  simp only [List.append_assoc]
theorem setAt_right {α : Type} (l r : List α) (off : Nat) (vs : List α) : setAt (l ++ r) (l.length + off) vs = l ++ setAt r off vs := by
  unfold setAt
  rw [List.take_append, List.take_of_length_le (by omega), Nat.add_sub_cancel_left, Nat.add_assoc, List.drop_append, List.drop_eq_nil_of_le (by omega), Nat.add_sub_cancel_left]
  simp only [List.nil_append, List.append_assoc]
theorem set_flat {α : Type} [Lay α] : ∀ (L : List α) (i : Nat) (x : α) (off : Nat) (vs : List Value) (zs : List Value), i < L.length → off + vs.length ≤ Lay.size α → setAt (Lay.cells (L.getD i default)) off vs = Lay.cells x →
    setAt (L.flatMap Lay.cells ++ zs) (i * Lay.size α + off) vs = (L.set i x).flatMap Lay.cells ++ zs
  | [], i, x, off, vs, zs, hi, _, _ => by simp at hi
  | y :: r, 0, x, off, vs, zs, _, hoff, he => by
    simp only [List.getD_cons_zero] at he
    simp only [Nat.zero_mul, Nat.zero_add, List.flatMap_cons, List.set_cons_zero, ← he, List.append_assoc]
    exact setAt_left _ _ _ _ (by rw [Lay.len]; exact hoff)
  | y :: r, i + 1, x, off, vs, zs, hi, hoff, he => by
    have ih := set_flat r i x off vs zs (by simpa using hi) hoff (by simpa using he)
    simp only [List.flatMap_cons, List.set_cons_succ, List.append_assoc]
    rw [← ih, show (i + 1) * Lay.size α + off = (Lay.cells y).length + (i * Lay.size α + off) by rw [Lay.len, Nat.succ_mul]; omega]
    exact setAt_right _ _ _ _

/-- a store into a row of ours -/
theorem row_store_run {α : Type} [Lay α] {P : Program} {e : Nat} {A : Option Addr} {c : Nat} {L : List α} {w : World} (h : (rowA e A c L).p w) (T : Nat) (i off : Nat) (v : Value) (vs : List Value) (x : α) (hi : i < L.length) (hv : v.cells.toList = vs) (hT : vs.length = P.cellsOf T) (hT0 : P.cellsOf T ≠ 0)
    (hone : ∀ v, v ∈ vs → v.oneCell' = true) (hoff : off + vs.length ≤ Lay.size α) (hx : setAt (Lay.cells (L.getD i default)) off vs = Lay.cells x) :
    ∃ w', (storeVar T (((oad A).add (i * Lay.size α)).add off) v).run P w = .ok () w' ∧ Kp (rowA e A c L).fp w w' ∧ (rowA e A c (L.set i x)).p w' := by
  obtain ⟨h1, h2⟩ := row_raw h
  rcases h2 with ⟨_, h0, _⟩ | ⟨g, zs, rfl, hr, hn⟩
  · omega
  have hlen : (L.flatMap Lay.cells).length = L.length * Lay.size α := flat_len L
  have hle : (i + 1) * Lay.size α ≤ L.length * Lay.size α := Nat.mul_le_mul_right _ hi
  rw [Nat.succ_mul] at hle
  obtain ⟨w', h3, h4, h5⟩ := raw_write (P := P) hr (i * Lay.size α + off) vs hone (by rw [List.length_append, hlen]; omega)
  refine ⟨w', ?_, h4, ?_⟩
  · have hsz : v.cells.size = P.cellsOf T := by rw [← Array.length_toList, hv, hT]
    show (storeVar T (((⟨g, 0, none⟩ : Addr).add (i * Lay.size α)).add off) v).run P w = _
    rw [addr_add, addr_at]
    simp only [storeVar, Sem.run_bind, sizeOf_run P T w (info_of_cells hT0), Result.andThen_ok, hsz, ne_eq, not_true_eq_false, if_false, hv]
    exact h3
  · rw [set_flat L i x off vs zs hi hoff hx] at h5
    have := raw_row h5 L.length hn
    rw [List.take_append_of_le_length (by rw [flat_len, List.length_set]; exact Nat.le_refl _), List.take_of_length_le (by rw [flat_len, List.length_set]; exact Nat.le_refl _)] at this
    unfold rowA
    rw [List.length_set]
    exact this

/-! ### parts of what is owned -/
/-- a weaker fact -/
theorem WS.weak {m : List Nat} {w0 : World} {bs : List Nat} {loc : List Blk} {R : List Res} {w : World} {r : Res} (h : WS m w0 bs loc (r :: R) w) (r' : Res) (hf : r'.fp.Sublist r.fp) (hp : r.p w → r'.p w) : WS m w0 bs loc (r' :: R) w := by
  have hs : ((r' :: R).flatMap Res.fp).Sublist ((r :: R).flatMap Res.fp) := by simp only [List.flatMap_cons]; exact hf.append (List.Sublist.refl _)
  refine ⟨h.kp, h.len, h.loc, fun x hx => ?_, h.nd.sublist ((List.Sublist.refl _).append hs), fun b hb => h.lo b (((List.Sublist.refl _).append hs).subset hb)⟩
  rcases List.mem_cons.1 hx with rfl | hx
  · exact hp (h.res _ (.head _))
  · exact h.res _ (.tail _ hx)
/-- one fact as two -/
theorem WS.part2 {m : List Nat} {w0 : World} {bs : List Nat} {loc : List Blk} {R : List Res} {w : World} {r : Res} (h : WS m w0 bs loc (r :: R) w) (r1 r2 : Res) (hf : (r1.fp ++ r2.fp).Perm r.fp) (hp : r.p w → r1.p w ∧ r2.p w) : WS m w0 bs loc (r1 :: r2 :: R) w := by
  have hpm : ((r1 :: r2 :: R).flatMap Res.fp).Perm ((r :: R).flatMap Res.fp) := by
    simp only [List.flatMap_cons]
    rw [← List.append_assoc]
    exact hf.append_right _
  have h2 := hp (h.res _ (.head _))
  refine ⟨h.kp, h.len, h.loc, fun x hx => ?_, ((List.Perm.append_left bs hpm).nodup_iff).2 h.nd, fun b hb => h.lo b ((List.Perm.append_left bs hpm).subset hb)⟩
  rcases List.mem_cons.1 hx with rfl | hx
  · exact h2.1
  · rcases List.mem_cons.1 hx with rfl | hx
    · exact h2.2
    · exact h.res _ (.tail _ hx)
theorem mem_of_getD {α : Type} [Inhabited α] {L : List α} {i : Nat} (hi : i < L.length) : L.getD i default ∈ L := List.mem_of_getElem? (getD_some hi)
theorem perm_erase {α : Type} [Inhabited α] : ∀ {L : List α} {i : Nat}, i < L.length → (L.getD i default :: L.eraseIdx i).Perm L
  | [], i, h => by simp at h
  | x :: r, 0, _ => by simp
  | x :: r, i + 1, h => by
    have ih := perm_erase (L := r) (i := i) (by simpa using h)
    simp only [List.getD_cons_succ, List.eraseIdx_cons_succ]
    exact (List.Perm.swap x _ _).trans (ih.cons x)
theorem ownL_get_fp {α : Type} [Inhabited α] (f : α → Res) {L : List α} {i : Nat} (hi : i < L.length) : ((f (L.getD i default)).fp ++ (ownL f (L.eraseIdx i)).fp).Perm (ownL f L).fp := by
  have := (perm_erase hi).flatMap_right (fun x => (f x).fp)
  rw [List.flatMap_cons] at this
  exact this
theorem ownL_get_p {α : Type} [Inhabited α] (f : α → Res) {L : List α} {i : Nat} (hi : i < L.length) (w : World) (h : (ownL f L).p w) : (f (L.getD i default)).p w ∧ (ownL f (L.eraseIdx i)).p w := ⟨h _ (mem_of_getD hi), fun x hx => h x (List.mem_of_mem_eraseIdx hx)⟩
/-! ### calls that turn blocks of ours -/
/-- only the block of a pointer has turned; something new besides -/
theorem WS.blkNew {m : List Nat} {w0 : World} {bs : List Nat} {loc : List Blk} {R : List Res} {w w' : World} (h : WS m w0 bs loc R w) (i : Nat) (b : Blk) (hb : loc[i]? = some b) (cs : List SV) (k : Kp [bs.getD i 0] w w') (hw : w'.heap[bs.getD i 0]? = some (.cells (cs.map (den bs)).toArray b.ty (0, 0))) (r : Res) (hr : Fresh w w' r) :
    WS m w0 bs (loc.set i ⟨b.ty, cs⟩) (r :: R) w' := by
  refine (h.blk i b hb cs k hw).new r hr.1 hr.2.1 fun x hx => ?_
  have h3 := hr.2.2 x hx
  refine ⟨.inl (Nat.le_trans h.kp.size h3.1), h3.2, fun hm => ?_⟩
  have := (h.lo x hm).2
  omega
/-- what such a call gives, out of what is known at its end -/
def Turned (r0 : Res) (w w' : World) (r : Res) : Prop := Kp r0.fp w w' ∧ r.p w' ∧ r.fp.Nodup ∧ ∀ b, b ∈ r.fp → b ∈ r0.fp ∨ (w.heap.size ≤ b ∧ b < w'.heap.size)
theorem WS.turned {w0 : World} {bs : List Nat} {loc : List Blk} {R : List Res} {w : World} {r0 r : Res} (h : WS r0.fp w0 bs loc (r :: R) w) : Turned r0 w0 w r := by
  have h2 := h.sub (R' := [r]) (List.Sublist.cons_cons _ (List.nil_sublist _))
  refine ⟨h.kp, h.res _ (.head _), ?_, fun b hb => ?_⟩
  · have := (List.nodup_append.1 h2.nd).2.1
    simpa using this
  · have := h2.lo b (by simp [hb])
    rcases this.1 with h3 | h3
    · exact .inr ⟨h3, this.2⟩
    · exact .inl h3
theorem WS.start1 (w : World) (r : Res) (hp : r.p w) (hn : r.fp.Nodup) (hl : ∀ b, b ∈ r.fp → b < w.heap.size) : WS r.fp w [] [] [r] w := ⟨Kp.refl _ _, rfl, fun i b hb => by simp at hb, fun x hx => by rw [List.mem_singleton] at hx; subst hx; exact hp, by simpa using hn, fun b hb => by
  have hb' : b ∈ r.fp := by simpa using hb
  exact ⟨.inr hb', hl b hb'⟩⟩
theorem WS.head1 {m : List Nat} {w0 : World} {bs : List Nat} {loc : List Blk} {R : List Res} {w : World} {r : Res} (h : WS m w0 bs loc (r :: R) w) : r.p w ∧ r.fp.Nodup ∧ ∀ b, b ∈ r.fp → b < w.heap.size := by
  have h2 := h.sub (R' := [r]) (List.Sublist.cons_cons _ (List.nil_sublist _))
  exact ⟨h.res _ (.head _), by simpa using (List.nodup_append.1 h2.nd).2.1, fun b hb => (h2.lo b (by simp [hb])).2⟩
end Go.Proofs.YtbjakddkfgjkaaaGreat.Fw
namespace Go.Proofs.YtbjakddkfgjkaaaGreat.Fw
open Go.RowKit
theorem conv_i64_u64 {P : Program} {S D : TypeId} {n : Int} (hS : P.underlying S = some (.int .i64)) (hD : P.underlying D = some (.int .u64)) (h0 : 0 ≤ n) (h1 : n ≤ 9223372036854775807) (w : World) : (convert S D (.int .i64 n) : Sem Value).run P w = .ok (.int .u64 n) w := by
  have e : IntKind.u64.wrap n = n := by simp [IntKind.wrap, IntKind.bits, IntKind.signed]; omega
  simp [convert, run_underlying hS, run_underlying hD, Conv.intToInt, e]
theorem conv_u64_i64 {P : Program} {S D : TypeId} {n : Int} (hS : P.underlying S = some (.int .u64)) (hD : P.underlying D = some (.int .i64)) (h0 : 0 ≤ n) (h1 : n ≤ 9223372036854775807) (w : World) : (convert S D (.int .u64 n) : Sem Value).run P w = .ok (.int .i64 n) w := by
  have e : IntKind.i64.wrap n = n := wrap64_id ⟨by omega, h1⟩
  simp [convert, run_underlying hS, run_underlying hD, Conv.intToInt, e]
theorem shr_u64 {P : Program} {T : TypeId} {X Y : Operand} {a : Int} {kk : IntKind} (w : World) : (do eqGuard .shr T X Y (.int .u64 a) (.int kk 1); binOp .shr T (.int .u64 a) (.int kk 1) : Sem Value).run P w = .ok (.int .u64 (a / 2)) w := by
  have h := shift_shr .u64 kk a 1 (by omega) (by decide)
  simp [eqGuard, binOp, h]
theorem sub_wrap {P : Program} {T : TypeId} {X Y : Operand} {a b : Int} (w : World) : (do eqGuard .sub T X Y (.int .i64 a) (.int .i64 b); binOp .sub T (.int .i64 a) (.int .i64 b) : Sem Value).run P w = .ok (.int .i64 (IntKind.i64.wrap (a - b))) w := by
  simp [eqGuard, binOp, Op.intArith]
end Go.Proofs.YtbjakddkfgjkaaaGreat.Fw

namespace Go.Proofs.YtbjakddkfgjkaaaGreat.Fw
open Go.RowKit

/-! ### things without what lies behind their slices -/
structure Fl (α : Type) where
  v : α
  deriving Inhabited
instance {α : Type} [Lay α] : Lay (Fl α) where
  size := Lay.size α
  bytes := Lay.bytes α
  pos := Lay.pos
  cells x := Lay.cells x.v
  len x := Lay.len x.v
  one x := Lay.one x.v
  sub _ _ _ := True
  stay _ _ := trivial
  wide _ _ := trivial
  ok _ := True
  okof _ := trivial
  small _ := True
abbrev fls {α : Type} (L : List α) : List (Fl α) := L.map Fl.mk
theorem fls_cells {α : Type} [Lay α] : ∀ (L : List α), (fls L).flatMap Lay.cells = L.flatMap Lay.cells
  | [] => rfl
  | x :: r => by
    have ih := fls_cells r
    simp only [fls, List.map_cons, List.flatMap_cons] at ih ⊢
    rw [ih]
    rfl
theorem rowA_fl {α : Type} [Lay α] (e : Nat) (A : Option Addr) (c : Nat) (L : List α) : rowA e A c (fls L) = rowA e A c L := by
  unfold rowA
  rw [fls_cells, List.length_map]
  rfl
theorem Sl.rd.fl {α : Type} [Lay α] {B : Nat → Prop} {w : World} {s : Sl α} (h : s.rd B w) : Sl.rd B w (⟨s.A, s.c, fls s.xs⟩ : Sl (Fl α)) := by
  refine ⟨by simpa [Sl.n] using h.1, h.2.1, fun i x hx => ?_⟩
  simp only [fls, List.getElem?_map] at hx
  cases hy : s.xs[i]? with
  | none => rw [hy] at hx; cases hx
  | some y =>
    rw [hy] at hx
    simp only [Option.map_some, Option.some.injEq] at hx
    subst hx
    exact ⟨(h.2.2 i y hy).1, trivial⟩
theorem fls_filter {α : Type} (p : α → Bool) (L : List α) : (fls L).filter (fun x => p x.v) = fls (L.filter p) := by
  simp only [fls, List.filter_map]
  rfl
theorem mIdx_fl {α : Type} [Inhabited α] (p : α → Bool) (L : List α) : mIdx (fun x : Fl α => p x.v) (fls L) = mIdx p L := by
  unfold mIdx
  have h : (fls L).findIdx (fun x : Fl α => p x.v) = L.findIdx p := by
    simp only [fls]
    rw [List.findIdx_map]
    rfl
  rw [h, List.length_map]

/-! ### rows of things as raw blocks -/
theorem rowA_raw {α : Type} [Lay α] {e : Nat} {A : Option Addr} {c : Nat} {L : List α} {w : World} (h : (rowA e A c L).p w) : (A = none ∧ L = [] ∧ c = 0) ∨ ∃ g zs, A = some ⟨g, 0, none⟩ ∧ (rawR e (Lay.size α) g c (L.flatMap Lay.cells ++ zs)).p w ∧ L.length ≤ c := by
  obtain ⟨_, h2⟩ := row_raw h
  rcases h2 with ⟨h3, h4, h5⟩ | h2
  · exact .inl ⟨h3, List.eq_nil_of_length_eq_zero h4, h5⟩
  · exact .inr h2
theorem raw_rowA {α : Type} [Lay α] {e g c : Nat} {cur : List Value} {w : World} (h : (rawR e (Lay.size α) g c cur).p w) (M : List α) (hM : cur.take (M.length * Lay.size α) = M.flatMap Lay.cells) (hn : M.length ≤ c) : (rowA e (some ⟨g, 0, none⟩) c M).p w := by
  have := raw_row h M.length hn
  rw [hM] at this
  exact this
theorem flat_take {α : Type} [Lay α] : ∀ (L : List α) (k : Nat), (L.flatMap Lay.cells).take (k * Lay.size α) = (L.take k).flatMap Lay.cells
  | [], k => by simp
  | x :: r, 0 => by simp
  | x :: r, k + 1 => by
    have ih := flat_take r k
    have hx := Lay.len x
    simp only [List.flatMap_cons, List.take_succ_cons]
    rw [← ih, Nat.succ_mul, List.take_append, List.take_of_length_le (by omega), hx]
    congr 2
    omega
theorem flat_drop {α : Type} [Lay α] : ∀ (L : List α) (k : Nat), (L.flatMap Lay.cells).drop (k * Lay.size α) = (L.drop k).flatMap Lay.cells
  | [], k => by simp
  | x :: r, 0 => by simp
  | x :: r, k + 1 => by
    have ih := flat_drop r k
    have hx := Lay.len x
    simp only [List.flatMap_cons, List.drop_succ_cons]
    rw [← ih, Nat.succ_mul, List.drop_append, List.drop_eq_nil_of_le (by omega), hx]
    simp only [List.nil_append]
    congr 1
    omega
theorem setAt_take {α : Type} (l : List α) (o k : Nat) (vs : List α) (hk : k ≤ o) (ho : o ≤ l.length) : (setAt l o vs).take k = l.take k := by
  unfold setAt
  rw [List.append_assoc, List.take_append_of_le_length (by rw [List.length_take]; omega), List.take_take, Nat.min_eq_left hk]
theorem setAt_take2 {α : Type} (l : List α) (o : Nat) (vs : List α) (ho : o ≤ l.length) : (setAt l o vs).take (o + vs.length) = l.take o ++ vs := by
  unfold setAt
  rw [List.take_append_of_le_length (by simp only [List.length_append, List.length_take]; omega), List.take_of_length_le (by simp only [List.length_append, List.length_take]; omega)]

/-- slices of a row, from a place on -/
def offA (A : Option Addr) (c o size : Nat) : Option Addr := if c = o then A else A.map (·.add (o * size))
theorem zero_cells_one {z : Array Value} {n : Nat} (h : z.toList.all Value.oneCell' = true) : ∀ v, v ∈ (Builtin.zeroCells z n).toList → v.oneCell' = true := by
  intro v hv
  simp only [Builtin.zeroCells, Array.toList_map, List.mem_map] at hv
  obtain ⟨i, hi, rfl⟩ := hv
  have hi' : i < n * z.size := by simpa using hi
  have hz : 0 < z.size := by
    rcases Nat.eq_zero_or_pos z.size with h0 | h0
    · rw [h0] at hi'; simp at hi'
    · exact h0
  have hm : i % z.size < z.size := Nat.mod_lt _ hz
  rw [getElem!_pos z _ hm]
  exact List.all_eq_true.1 h _ (Array.getElem_mem_toList hm)
/-- the zero of an element, as it must be -/
def zeroB (P : Program) (e size : Nat) : Bool :=
  match P.info? e with
  | some i => match i.zero with
    | some z => Nat.beq z.cells.size size && z.cells.toList.all Value.oneCell'
    | none => false
  | none => false
theorem clear_run {α : Type} [Lay α] {P : Program} {t ty e : TypeId} (ht : P.underlying t = some (.slice e)) (hz : zeroB P e (Lay.size α) = true) {A : Option Addr} {c : Nat} {L : List α} {w : World} (h : (rowA e A c L).p w) (o q : Nat) (ho : o ≤ L.length) (hq : o + q ≤ c) :
    ∃ w', (Builtin.clear_ #[t] ty #[.slice (offA A c o (Lay.size α)) q (c - o)]).run P w = .ok (.tuple #[]) w' ∧ Kp (rowA e A c L).fp w w' ∧ (rowA e A c (L.take o)).p w' := by
  unfold zeroB at hz
  split at hz
  · rename_i i hi
    split at hz
    · rename_i z hzz
      simp only [Bool.and_eq_true] at hz
      have hzs : z.cells.size = Lay.size α := Nat.eq_of_beq_eq_true hz.1
      have hzrun : (zeroValue e).run P w = .ok z w := by simp [zeroValue, typeInfo, hi, hzz]
      rcases rowA_raw h with ⟨rfl, rfl, rfl⟩ | ⟨g, zs, rfl, hr, hn⟩
      · have : q = 0 := by omega
        subst this
        have h1 : offA none 0 o (Lay.size α) = none := by unfold offA; split <;> rfl
        refine ⟨w, ?_, Kp.refl _ _, by simpa using h⟩
        rw [h1]
        simp [Builtin.clear_, run_underlying ht]
      · have hlen : (L.flatMap Lay.cells).length = L.length * Lay.size α := flat_len L
        have htk : ∀ cur : List Value, cur.take (o * Lay.size α) = (L.flatMap Lay.cells ++ zs).take (o * Lay.size α) → cur.take ((L.take o).length * Lay.size α) = (L.take o).flatMap Lay.cells := by
          intro cur hc
          have e1 : (L.take o).length = o := by rw [List.length_take]; omega
          rw [e1, hc, List.take_append_of_le_length (by rw [hlen]; exact Nat.mul_le_mul_right _ ho), flat_take]
        rcases Nat.eq_zero_or_pos q with hq0 | hq0
        · subst hq0
          refine ⟨w, ?_, Kp.refl _ _, raw_rowA hr _ (htk _ rfl) (by rw [List.length_take]; omega)⟩
          unfold offA
          split <;> simp [Builtin.clear_, run_underlying ht]
        · have h1 : offA (some ⟨g, 0, none⟩) c o (Lay.size α) = some ⟨g, o * Lay.size α, none⟩ := by
            unfold offA
            rw [if_neg (by omega)]
            simp [addr_at]
          have hsz : (Builtin.zeroCells z.cells q).toList.length = q * Lay.size α := by rw [Array.length_toList, size_zeroCells, hzs]
          have hcl := hr.2.1
          have hmul : (o + q) * Lay.size α ≤ c * Lay.size α := Nat.mul_le_mul_right _ hq
          rw [Nat.add_mul] at hmul
          obtain ⟨w', h3, h4, h5⟩ := raw_write (P := P) hr (o * Lay.size α) (Builtin.zeroCells z.cells q).toList (zero_cells_one hz.2) (by rw [hsz, hcl]; exact hmul)
          refine ⟨w', ?_, h4, raw_rowA h5 _ (htk _ (setAt_take _ _ _ _ (Nat.le_refl _) (by rw [hcl]; omega))) (by rw [List.length_take]; omega)⟩
          rw [h1]
          obtain ⟨q', rfl⟩ : ∃ q', q = q' + 1 := ⟨q - 1, by omega⟩
          simp only [Builtin.clear_]
          simp [run_underlying ht, hzrun, h3]
    · cases hz
  · cases hz
/-- 'append(s[:i], s[j:]...)' -/
theorem appdel_run {α : Type} [Lay α] {P : Program} {t ty e : TypeId} {bytes : Nat} (ht : P.underlying t = some (.slice e)) (hi : infoB P e (Lay.size α) bytes = true) {A : Option Addr} {c : Nat} {L : List α} {w : World} (h : (rowA e A c L).p w) (i j : Nat) (hij : i ≤ j) (hj : j ≤ L.length) :
    ∃ w', (Builtin.append_ #[t, t] ty #[.slice A i c, .slice (offA A c j (Lay.size α)) (L.length - j) (c - j)]).run P w = .ok (.slice A (i + (L.length - j)) c) w' ∧ Kp (rowA e A c L).fp w w' ∧ (rowA e A c (L.take i ++ L.drop j)).p w' := by
  have hinf : (P.info? e).isSome = true ∧ P.cellsOf e = Lay.size α := by
    unfold infoB at hi
    split at hi
    · rename_i i' hi'
      simp only [Bool.and_eq_true] at hi
      exact ⟨by simp [hi'], by simp [Program.cellsOf, hi', Nat.eq_of_beq_eq_true hi.1.1]⟩
    · cases hi
  rcases rowA_raw h with ⟨rfl, rfl, rfl⟩ | ⟨g, zs, rfl, hr, hn⟩
  · have h1 : i = 0 := by simp at hj; omega
    have h2 : j = 0 := by simpa using hj
    subst h1 h2
    have := append_nil_run (P := P) (w := w) t ty e none 0 0 0 ht hinf.1 (Nat.le_refl _)
    exact ⟨w, by simpa [offA] using this, Kp.refl _ _, by simpa using h⟩
  · have hlen : (L.flatMap Lay.cells).length = L.length * Lay.size α := flat_len L
    rcases Nat.eq_or_lt_of_le hj with hj0 | hj0
    · subst hj0
      have htk : (rowA e (some ⟨g, 0, none⟩) c (L.take i)).p w := raw_rowA hr _ (by
        have e1 : (L.take i).length = i := by rw [List.length_take]; omega
        rw [e1, List.take_append_of_le_length (by rw [hlen]; exact Nat.mul_le_mul_right _ hij), flat_take]) (by rw [List.length_take]; omega)
      refine ⟨w, ?_, Kp.refl _ _, by rw [List.drop_length, List.append_nil]; exact htk⟩
      have hz : ∃ a2, offA (some ⟨g, 0, none⟩) c L.length (Lay.size α) = some a2 := by unfold offA; split <;> simp
      obtain ⟨a2, ha2⟩ := hz
      have hic : i ≤ c := by omega
      rw [ha2, Nat.sub_self, Nat.add_zero]
      obtain ⟨ii, hii⟩ := Option.isSome_iff_exists.1 hinf.1
      simp [Builtin.append_, run_underlying ht, sizeOf, typeInfo, hii, Builtin.lenOf, Builtin.firstCells, hic, loadCells, loadCellsFrom, storeCells]
    · have h1 : offA (some ⟨g, 0, none⟩) c j (Lay.size α) = some ⟨g, j * Lay.size α, none⟩ := by
        unfold offA
        rw [if_neg (by omega)]
        simp [addr_at]
      have hcl := hr.2.1
      have hsrc : CellsAt w ⟨g, j * Lay.size α, none⟩ ((L.drop j).flatMap Lay.cells) := by
        intro k v hk
        have e1 : (⟨g, j * Lay.size α, none⟩ : Addr).add k = ⟨g, j * Lay.size α + k, none⟩ := by unfold Addr.add; split <;> simp_all
        rw [e1]
        simp only [World.cell?, hr.1]
        have hk2 : (L.flatMap Lay.cells ++ zs)[j * Lay.size α + k]? = some v := by
          rw [← flat_drop, List.getElem?_drop] at hk
          rw [List.getElem?_append_left (List.getElem?_eq_some_iff.1 hk).1]
          exact hk
        simpa using hk2
      have hdl : ((L.drop j).flatMap Lay.cells).length = (L.length - j) * Lay.size α := by rw [flat_len, List.length_drop]
      have hroom : i + (L.length - j) ≤ c := by omega
      have hmul : (i + (L.length - j)) * Lay.size α ≤ c * Lay.size α := Nat.mul_le_mul_right _ hroom
      rw [Nat.add_mul] at hmul
      obtain ⟨w', h3, h4, h5⟩ := raw_write (P := P) hr (i * Lay.size α) ((L.drop j).flatMap Lay.cells) (fun v hv => List.all_eq_true.1 (flat_one (L.drop j)) v hv) (by rw [hdl, hcl]; exact hmul)
      refine ⟨w', ?_, h4, raw_rowA h5 _ ?_ (by simp only [List.length_append, List.length_take, List.length_drop]; omega)⟩
      · have hld : (loadCells ⟨g, j * Lay.size α, none⟩ ((L.length - j) * Lay.size α)).run P w = .ok ((L.drop j).flatMap Lay.cells).toArray w := by
          have := loadCellsFrom_ok P w ⟨g, j * Lay.size α, none⟩ _ 0 #[] ((L.drop j).flatMap Lay.cells) hdl (fun k v hk => by simpa using hsrc k v hk)
          simpa [loadCells] using this
        have hsz : (sizeOf e).run P w = .ok (Lay.size α) w := by rw [sizeOf_run P e w hinf.1, hinf.2]
        rw [h1]
        simp only [Builtin.append_]
        simp [run_underlying ht, hsz, Builtin.lenOf, Builtin.firstCells, hroom, hld, addr_at, h3]
      · have e1 : (L.take i ++ L.drop j).length * Lay.size α = i * Lay.size α + ((L.drop j).flatMap Lay.cells).length := by
          rw [hdl, List.length_append, List.length_take, List.length_drop, Nat.min_eq_left (by omega), Nat.add_mul]
        rw [e1, setAt_take2 _ _ _ (by rw [hcl]; omega), List.flatMap_append, List.take_append_of_le_length (by rw [hlen]; exact Nat.mul_le_mul_right _ (by omega)), flat_take]
end Go.Proofs.YtbjakddkfgjkaaaGreat.Fw
namespace Go.Proofs.YtbjakddkfgjkaaaGreat.Fw
open Go.RowKit
/-- the block of a pointer, behind a call that has turned the fact at the head -/
theorem WS.blkIn {m : List Nat} {w0 : World} {bs : List Nat} {loc : List Blk} {r : Res} {R : List Res} {w w' : World} (h : WS m w0 bs loc (r :: R) w) (hk : Kp r.fp w w') {i : Nat} {b : Blk} (hb : loc[i]? = some b) (hne : b.cs ≠ []) : w'.heap[bs.getD i 0]? = some (.cells (b.cs.map (den bs)).toArray b.ty (0, 0)) := by
  have hmi := h.mem_bs hb
  rw [hk.block _ (h.lo _ (List.mem_append_left _ hmi)).2 fun hm => (List.nodup_append.1 h.nd).2.2 _ hmi _ (List.mem_flatMap.2 ⟨r, .head _, hm⟩) rfl]
  exact h.loc i b hb hne
theorem WS.resIn {m : List Nat} {w0 : World} {bs : List Nat} {loc : List Blk} {r : Res} {R : List Res} {w w' : World} (h : WS m w0 bs loc (r :: R) w) (hk : Kp r.fp w w') {r2 : Res} (h2 : r2 ∈ R) : r2.p w' := by
  have hnd := h.nd
  rw [List.flatMap_cons] at hnd
  have hn2 := (List.nodup_append.1 (List.nodup_append.1 hnd).2.1).2.2
  refine r2.st (fun b hb => hk.block b ?_ fun hm => hn2 b hm b (List.mem_flatMap.2 ⟨r2, h2, hb⟩) rfl) (h.res r2 (.tail _ h2))
  exact (h.lo b (List.mem_append_right _ (List.mem_flatMap.2 ⟨r2, .tail _ h2, hb⟩))).2
end Go.Proofs.YtbjakddkfgjkaaaGreat.Fw
namespace Go.Proofs.YtbjakddkfgjkaaaGreat.Fw
open Go.RowKit
end Go.Proofs.YtbjakddkfgjkaaaGreat.Fw
namespace Go.Proofs.YtbjakddkfgjkaaaGreat.Fw
open Go.RowKit
/-- a block of somebody else's, as it is -/
def blkR (b ty : Nat) (vs : List Value) : Res := ⟨[b], fun w => w.heap[b]? = some (.cells vs.toArray ty (0, 0)), fun h p => by rw [h b (by simp)]; exact p⟩
theorem blkR_at {b ty : Nat} {vs : List Value} {w : World} (h : (blkR b ty vs).p w) : CellsAt w ⟨b, 0, none⟩ vs := fun j v hj => by
  have h' : w.heap[b]? = some (.cells vs.toArray ty (0, 0)) := h
  rw [addr_at]
  simp only [World.cell?, h']
  simpa using hj
theorem blkR_fld {b ty : Nat} {vs : List Value} {w : World} (h : (blkR b ty vs).p w) (off n : Nat) {us : List Value} (hv : (vs.drop off).take n = us) : CellsAt w ((⟨b, 0, none⟩ : Addr).add off) us := by
  subst hv
  exact (blkR_at h).part off n
theorem blkR_lt {b ty : Nat} {vs : List Value} {w : World} (h : (blkR b ty vs).p w) : ∀ x, x ∈ (blkR b ty vs).fp → x < w.heap.size := fun x hx => by
  have hx' : x = b := by simpa [blkR] using hx
  subst hx'
  have h' : w.heap[x]? = some (.cells vs.toArray ty (0, 0)) := h
  rcases Nat.lt_or_ge x w.heap.size with h1 | h1
  · exact h1
  · rw [Array.getElem?_eq_none h1] at h'; cases h'
end Go.Proofs.YtbjakddkfgjkaaaGreat.Fw

namespace Go.Proofs.YtbjakddkfgjkaaaGreat.Fw
open Go.RowKit
/-- a store into a block that is known as a fact -/
theorem blkR_write {P : Program} {b ty : Nat} {vs : List Value} {w : World} (h : (blkR b ty vs).p w) (off : Nat) (us : List Value) (h1 : ∀ v, v ∈ us → v.oneCell' = true) (hfit : off + us.length ≤ vs.length) :
    ∃ w', (storeCells ⟨b, off, none⟩ us).run P w = .ok () w' ∧ Kp [b] w w' ∧ (blkR b ty (setAt vs off us)).p w' := by
  obtain ⟨w', h2, h3, h4, _⟩ := storeCells_ok P b ty us 0 off w vs h1 h (by simpa using hfit)
  exact ⟨w', h2, h4, h3⟩
end Go.Proofs.YtbjakddkfgjkaaaGreat.Fw
namespace Go.Proofs.YtbjakddkfgjkaaaGreat.Fw
theorem blkR_pre {b ty : Nat} {vs : List Value} {w : World} (h : (blkR b ty vs).p w) (n : Nat) {us : List Value} (hv : vs.take n = us) : CellsAt w ⟨b, 0, none⟩ us := by
  have := (blkR_at h).part 0 n
  rw [List.drop_zero, hv, add_zero] at this
  exact this
end Go.Proofs.YtbjakddkfgjkaaaGreat.Fw
namespace Go.Proofs.YtbjakddkfgjkaaaGreat.Fw
open Go.RowKit
end Go.Proofs.YtbjakddkfgjkaaaGreat.Fw
namespace Go.Proofs.YtbjakddkfgjkaaaGreat.Fw
open Go.RowKit
theorem d_appendA {α : Type} [Lay α] {C : Cx} {R' : List Res} {s : SS} {d : Option Nat} {ty : Nat} {pos : String} {aft : Array Edge} {g : Option (Nat × Bool)} {X1 X2 : Operand} {t : Nat} (e bytes : Nat)
    (A : Option Addr) (c : Nat) (L : List α) (x2 : SV) (L2 : List α) (ht : C.P.underlying t = some (.slice e)) (hi : infoB C.P e (Lay.size α) bytes = true)
    (h1 : ev s X1 = some (.v (.slice A L.length c))) (h2 : ev s X2 = some x2) (hsrc : ∀ bs w, WS C.m C.w0 bs s.loc (rowA e A c L :: R') w → ∃ A2 c2, den bs x2 = .slice A2 L2.length c2 ∧ SrcAt w A2 L2.length (L2.flatMap Lay.cells))
    (h63 : L.length + L2.length ≤ 9223372036854775807) (hb : (L.length + L2.length) * bytes ≤ 140737488355328) :
    Does C ⟨d, .call ⟨.builtin .append, #[X1, X2], #[t, t]⟩, ty, pos, aft, g⟩ (rowA e A c L :: R') s (σ := Option Addr × Nat) (fun y => .v (.slice y.1 (L ++ L2).length y.2)) (fun _ => s.loc) (fun y => rowA e y.1 y.2 (L ++ L2) :: R') := by
  refine d_builtin (σ := Option Addr × Nat) [.v (.slice A L.length c), x2] _ _ _ (by simp [evs, h1, h2]) fun bs w cs hS => ?_
  obtain ⟨A2, c2, hx, hc⟩ := hsrc bs w hS
  have e1 : ([SV.v (.slice A L.length c), x2].map (den bs)) = [Value.slice A L.length c, .slice A2 L2.length c2] := by rw [List.map_cons, List.map_cons, hx]; rfl
  rw [e1]
  simp only [builtin, Sem.run_bind]
  cases A2 with
  | some a =>
    obtain ⟨A', c', w', h3, h4⟩ := append_run t ty e (Lay.size α) bytes A L.length c (L.flatMap Lay.cells) hS ht hi Lay.pos a L2.length c2 (L2.flatMap Lay.cells) (flat_len L2) hc (flat_one L2) (by unfold maxLen; omega) hb
    rw [← List.flatMap_append, ← List.length_append] at h4
    refine ⟨(A', c'), w', ?_, h4⟩
    rw [h3, List.length_append]
    rfl
  | none =>
    have hk : L2.length = 0 := hc
    have hv : L2 = [] := List.eq_nil_of_length_eq_zero hk
    subst hv
    have hnc : L.length ≤ c := (rowA_get (hS.res _ (.head _))).1
    refine ⟨(A, c), w, ?_, ?_⟩
    · rw [show (([] : List α).length) = 0 from rfl, append_nil_run t ty e A L.length c c2 ht (by
        unfold infoB at hi
        split at hi
        · rename_i i h; simp [h]
        · cases hi) hnc]
      simp [den]
    · rw [List.append_nil]; exact hS
end Go.Proofs.YtbjakddkfgjkaaaGreat.Fw
namespace Go.Proofs.YtbjakddkfgjkaaaGreat.Fw
open Go.RowKit
/-- what was there is there still -/
theorem blkR_kp {b ty : Nat} {vs : List Value} {w0 w : World} (h : (blkR b ty vs).p w0) (k : Kp [] w0 w) : (blkR b ty vs).p w := (blkR b ty vs).st (fun x hx => k.block x (blkR_lt h x hx) (by simp)) h
theorem CellsAt.kp {w0 w : World} {a : Addr} {vs : List Value} (h : CellsAt w0 a vs) (k : Kp [] w0 w) : CellsAt w a vs := h.same fun hlt => k.block _ hlt (by simp)
/-- a part of a slice that reads -/
theorem CellsAt.take {w : World} {a : Addr} {vs : List Value} (h : CellsAt w a vs) (n : Nat) : CellsAt w a (vs.take n) := fun j v hj => by
  rw [List.getElem?_take] at hj
  split at hj
  · exact h j v hj
  · cases hj
theorem Sl.rd.srcDrop {α : Type} [Lay α] {B : Nat → Prop} {w : World} {s : Sl α} (h : s.rd B w) {j : Nat} (hj : j ≤ s.n) : SrcAt w (offA s.A s.c j (Lay.size α)) (s.n - j) ((s.xs.drop j).flatMap Lay.cells) := by
  have h1 := h.src
  cases hA : s.A with
  | none =>
    rw [hA] at h1
    have h2 : s.n = 0 := h1
    have : offA none s.c j (Lay.size α) = none := by unfold offA; split <;> rfl
    rw [this]
    show s.n - j = 0
    omega
  | some a =>
    rw [hA] at h1
    have h2 : CellsAt w a (s.xs.flatMap Lay.cells) := h1
    unfold offA
    split
    · have h3 : s.n ≤ s.c := h.1
      have h4 : (s.xs.drop j) = [] := List.drop_eq_nil_of_le (by show s.xs.length ≤ j; have : s.n = s.xs.length := rfl; omega)
      show CellsAt w a _
      rw [h4]
      intro k v hk
      simp at hk
    · show CellsAt w (a.add (j * Lay.size α)) _
      rw [← flat_drop]
      have := h2.part (j * Lay.size α) (s.xs.flatMap Lay.cells).length
      rwa [List.take_of_length_le (by rw [List.length_drop]; omega)] at this
end Go.Proofs.YtbjakddkfgjkaaaGreat.Fw
namespace Go.Proofs.YtbjakddkfgjkaaaGreat.Fw
open Go.RowKit
theorem getD_set {α : Type} [Inhabited α] {L : List α} {i : Nat} {x : α} (hi : i < L.length) : (L.set i x).getD i default = x := by
  rw [List.getD_eq_getElem?_getD, List.getElem?_set_self hi]; rfl
theorem getD_set_ne {α : Type} [Inhabited α] {L : List α} {i j : Nat} {x : α} (h : ¬ i = j) : (L.set i x).getD j default = L.getD j default := by
  rw [List.getD_eq_getElem?_getD, List.getD_eq_getElem?_getD, List.getElem?_set_ne h]
theorem set_getD {α : Type} [Inhabited α] {L : List α} {i : Nat} (hi : i < L.length) : L.set i (L.getD i default) = L := by
  apply List.ext_getElem?
  intro j
  by_cases h : i = j
  · subst h; rw [List.getElem?_set_self hi, getD_some hi]
  · rw [List.getElem?_set_ne h]
end Go.Proofs.YtbjakddkfgjkaaaGreat.Fw
namespace Go.Proofs.YtbjakddkfgjkaaaGreat.Fw
open Go.RowKit
theorem SrcAt.kp {w0 w : World} {A : Option Addr} {n : Nat} {vs : List Value} (h : SrcAt w0 A n vs) (k : Kp [] w0 w) : SrcAt w A n vs := by
  cases A with
  | none => exact h
  | some a => exact CellsAt.kp h k
theorem SrcAt.takeL {α : Type} [Lay α] {w : World} {A : Option Addr} {n m : Nat} {L : List α} (h : SrcAt w A n (L.flatMap Lay.cells)) (hm : m ≤ n) : SrcAt w A m ((L.take m).flatMap Lay.cells) := by
  cases A with
  | none =>
    have h1 : n = 0 := h
    show m = 0
    omega
  | some a =>
    have h1 : CellsAt w a (L.flatMap Lay.cells) := h
    show CellsAt w a _
    rw [← flat_take]
    exact h1.take _
/-! ### more rules in drawn regions -/
end Go.Proofs.YtbjakddkfgjkaaaGreat.Fw
namespace Go.Proofs.YtbjakddkfgjkaaaGreat.Fw
open Go.RowKit
end Go.Proofs.YtbjakddkfgjkaaaGreat.Fw
namespace Go.Proofs.YtbjakddkfgjkaaaGreat.Fw
open Go.RowKit
theorem rowA_src {α : Type} [Lay α] {e : Nat} {A : Option Addr} {c : Nat} {L : List α} {w : World} (h : (rowA e A c L).p w) : SrcAt w A L.length (L.flatMap Lay.cells) := by
  rcases rowA_raw h with ⟨rfl, rfl, rfl⟩ | ⟨g, zs, rfl, hr, hn⟩
  · exact rfl
  · intro j v hj
    rw [addr_at]
    simp only [World.cell?, hr.1]
    have : (L.flatMap Lay.cells ++ zs)[j]? = some v := by rw [List.getElem?_append_left (List.getElem?_eq_some_iff.1 hj).1]; exact hj
    simpa using this
end Go.Proofs.YtbjakddkfgjkaaaGreat.Fw

namespace Go.Proofs.YtbjakddkfgjkaaaGreat.Fw
open Go.RowKit
/-! ### a row of ours as a raw block -/
/-! ### 'copy(d, s)' onto a raw block of ours -/
theorem copy_run {P : Program} {e size g c : Nat} {cur : List Value} {w : World} (h : (rawR e size g c cur).p w) {t t2 ty : TypeId} (ht : P.underlying t = some (.slice e)) (hi : (P.info? e).isSome = true) (hc : P.cellsOf e = size) (o n1 c1 : Nat) (A2 : Option Addr) (k c2 : Nat) (vs : List Value)
    (hsrc : SrcAt w A2 (Nat.min k n1) vs) (hl : vs.length = Nat.min k n1 * size) (h1 : ∀ v, v ∈ vs → v.oneCell' = true) (hfit : o + vs.length ≤ cur.length) :
    ∃ w', (Builtin.copy_ #[t, t2] ty #[.slice (some ⟨g, o, none⟩) n1 c1, .slice A2 k c2]).run P w = .ok (goInt (Nat.min k n1)) w' ∧ Kp [g] w w' ∧ (rawR e size g c (setAt cur o vs)).p w' := by
  obtain ⟨w', h3, h4, h5⟩ := raw_write (P := P) h o vs h1 hfit
  refine ⟨w', ?_, h4, h5⟩
  have hsz : (sizeOf e).run P w = .ok size w := by rw [sizeOf_run P e w hi, hc]
  cases A2 with
  | none =>
    have hz : Nat.min k n1 = 0 := hsrc
    have hv : vs = [] := List.eq_nil_of_length_eq_zero (by rw [hl, hz, Nat.zero_mul])
    subst hv
    rw [hz]
    simp only [Builtin.copy_]
    simp [run_underlying ht, hsz, Builtin.lenOf, Builtin.firstCells, hz, h3]
  | some a =>
    have hcell : CellsAt w a vs := hsrc
    have hld : (loadCells a (Nat.min k n1 * size)).run P w = .ok vs.toArray w := by
      have := loadCellsFrom_ok P w a _ 0 #[] vs hl (fun j v hj => by simpa using hcell j v hj)
      simpa [loadCells] using this
    simp only [Builtin.copy_]
    simp [run_underlying ht, hsz, Builtin.lenOf, Builtin.firstCells, hld, h3]
theorem infoB_cells {P : Program} {e size bytes : Nat} (hi : infoB P e size bytes = true) : (P.info? e).isSome = true ∧ P.cellsOf e = size := by
  unfold infoB at hi
  split at hi
  · rename_i i' hi'
    simp only [Bool.and_eq_true] at hi
    exact ⟨by simp [hi'], by simp [Program.cellsOf, hi', Nat.eq_of_beq_eq_true hi.1.1]⟩
  · cases hi
/-! ### 'append(s[:i], make(S, k)...)' that grows -/
theorem srcAt_first {P : Program} {w : World} {A : Option Addr} {i c size : Nat} {vs : List Value} (h : SrcAt w A i vs) (hl : vs.length = i * size) : (Builtin.firstCells size i (.slice A i c)).run P w = .ok vs.toArray w := by
  cases A with
  | none =>
    have hz : i = 0 := h
    subst hz
    have hv : vs = [] := List.eq_nil_of_length_eq_zero (by rw [hl, Nat.zero_mul])
    subst hv
    simp [Builtin.firstCells]
  | some a =>
    have hcell : CellsAt w a vs := h
    have hld : (loadCells a (i * size)).run P w = .ok vs.toArray w := by
      have := loadCellsFrom_ok P w a _ 0 #[] vs hl (fun j v hj => by simpa using hcell j v hj)
      simpa [loadCells] using this
    simp [Builtin.firstCells, hld]
/-! ### a function without a body, that looks at the world -/
theorem blkR_shape {b ty : Nat} {vs : List Value} {w : World} (h : (blkR b ty vs).p w) : w.shape? b = some (ty, vs.length) := by
  have h' : w.heap[b]? = some (.cells vs.toArray ty (0, 0)) := h
  simp [World.shape?, h']
theorem blkR_thaw {b ty : Nat} {vs : List Value} {w : World} (h : (blkR b ty vs).p w) (o : Nat) : w.frozen? ⟨b, o, none⟩ = false := by
  have h' : w.heap[b]? = some (.cells vs.toArray ty (0, 0)) := h
  simp [World.frozen?, h']
theorem rawR_shape {e size g c : Nat} {cur : List Value} {w : World} (h : (rawR e size g c cur).p w) : w.shape? g = some (e, cur.length) := by
  simp [World.shape?, h.1]
/-- what a raw block holds from a place on -/
theorem raw_src {e size g c : Nat} {cur : List Value} {w : World} (h : (rawR e size g c cur).p w) (o : Nat) : CellsAt w ⟨g, o, none⟩ (cur.drop o) := fun j v hj => by
  have e1 : (⟨g, o, none⟩ : Addr).add j = ⟨g, o + j, none⟩ := by unfold Addr.add; split <;> simp_all
  rw [e1]
  rw [List.getElem?_drop] at hj
  simp [World.cell?, h.1, hj]
theorem rowA_srcDrop {α : Type} [Lay α] {e : Nat} {A : Option Addr} {c : Nat} {L : List α} {w : World} (h : (rowA e A c L).p w) {j : Nat} (hj : j ≤ L.length) : SrcAt w (offA A c j (Lay.size α)) (L.length - j) ((L.drop j).flatMap Lay.cells) := by
  rcases rowA_raw h with ⟨rfl, rfl, rfl⟩ | ⟨g, zs, rfl, hr, hn⟩
  · have : offA none 0 j (Lay.size α) = none := by unfold offA; split <;> rfl
    rw [this]
    show ([] : List α).length - j = 0
    simp
  · unfold offA
    split
    · have h3 : L.drop j = [] := List.drop_eq_nil_of_le (by omega)
      rw [h3]
      intro k v hk
      simp at hk
    · show CellsAt w ((⟨g, 0, none⟩ : Addr).add (j * Lay.size α)) _
      rw [addr_at]
      have h4 := (raw_src hr (j * Lay.size α)).take (((L.drop j).flatMap Lay.cells).length)
      rw [List.drop_append_of_le_length (by rw [flat_len]; exact Nat.mul_le_mul_right _ hj), flat_drop, List.take_left] at h4
      exact h4
/-- a row that one has been laid into -/
theorem ins_cells {cur P X D : List Value} {o m : Nat} (hP : cur.take o = P) (ho : o ≤ cur.length) (hX : X.length = m) (hf : o + m + D.length ≤ cur.length) :
    (setAt (setAt cur (o + m) D) o X).take (o + m + D.length) = P ++ X ++ D := by
  have hl1 : (setAt cur (o + m) D).length = cur.length := by unfold setAt; simp only [List.length_append, List.length_take, List.length_drop]; omega
  have e1 : (setAt cur (o + m) D).take o = P := by
    unfold setAt
    rw [List.append_assoc, List.take_append_of_le_length (by rw [List.length_take]; omega), List.take_take, Nat.min_eq_left (by omega), hP]
  have hPl : P.length = o := by rw [← hP, List.length_take]; omega
  have e2 : (setAt cur (o + m) D).drop (o + m) = D ++ cur.drop (o + m + D.length) := by
    unfold setAt
    rw [List.append_assoc, List.drop_append, List.drop_eq_nil_of_le (by rw [List.length_take]; omega), List.length_take, Nat.min_eq_left (by omega), Nat.sub_self]
    simp
  have e3 : setAt (setAt cur (o + m) D) o X = P ++ X ++ (D ++ cur.drop (o + m + D.length)) := by
    show (setAt cur (o + m) D).take o ++ X ++ (setAt cur (o + m) D).drop (o + X.length) = _
    rw [e1, hX, e2]
  rw [e3, ← List.append_assoc, List.take_append_of_le_length (by simp only [List.length_append]; omega), List.take_of_length_le (by simp only [List.length_append]; omega)]
theorem ins_cells2 {cur P X D : List Value} {o m : Nat} (hP : cur.take o = P) (ho : o ≤ cur.length) (hX : X.length = m) (hf : o + m + D.length ≤ cur.length) :
    (setAt (setAt cur o X) (o + m) D).take (o + m + D.length) = P ++ X ++ D := by
  have hl1 : (setAt cur o X).length = cur.length := by unfold setAt; simp only [List.length_append, List.length_take, List.length_drop]; omega
  rw [setAt_take2 _ _ _ (by rw [hl1]; omega)]
  congr 1
  rw [← hX, setAt_take2 _ _ _ ho, hP]
theorem setAt_len {α : Type} {l : List α} {o : Nat} {vs : List α} (h : o + vs.length ≤ l.length) : (setAt l o vs).length = l.length := by unfold setAt; simp only [List.length_append, List.length_take, List.length_drop]; omega
theorem one_len {α : Type} [Lay α] (x : α) : ([x].flatMap Lay.cells).length = Lay.size α := by simp [Lay.len]
theorem drop_len {α : Type} [Lay α] (L : List α) (i : Nat) : ((L.drop i).flatMap Lay.cells).length = (L.length - i) * Lay.size α := by rw [flat_len, List.length_drop]
theorem ins_fit {α : Type} [Lay α] {L : List α} {i c : Nat} (hi : i ≤ L.length) (hc : L.length + 1 ≤ c) : i * Lay.size α + Lay.size α + ((L.drop i).flatMap Lay.cells).length ≤ c * Lay.size α := by
  rw [drop_len, ← Nat.succ_mul, ← Nat.add_mul]
  exact Nat.mul_le_mul_right _ (by omega)
theorem ins_row {α : Type} [Lay α] {e g c : Nat} {cur : List Value} {w : World} (h : (rawR e (Lay.size α) g c cur).p w) {L : List α} {i : Nat} {x : α} (hi : i ≤ L.length)
    (hcur : cur.take (i * Lay.size α + Lay.size α + ((L.drop i).flatMap Lay.cells).length) = (L.take i).flatMap Lay.cells ++ [x].flatMap Lay.cells ++ (L.drop i).flatMap Lay.cells) (hc : L.length + 1 ≤ c) : (rowA e (some ⟨g, 0, none⟩) c (L.take i ++ [x] ++ L.drop i)).p w := by
  have hl : (L.take i ++ [x] ++ L.drop i).length = L.length + 1 := by simp only [List.length_append, List.length_take, List.length_drop, List.length_cons, List.length_nil]; omega
  refine raw_rowA h _ ?_ (by rw [hl]; exact hc)
  have e1 : (L.take i ++ [x] ++ L.drop i).length * Lay.size α = i * Lay.size α + Lay.size α + ((L.drop i).flatMap Lay.cells).length := by
    rw [hl, drop_len, ← Nat.succ_mul, ← Nat.add_mul]
    congr 1
    omega
  rw [e1, hcur]
  simp
theorem ins_row1 {α : Type} [Lay α] {e g c : Nat} {zs : List Value} {w : World} {L : List α} {i : Nat} {x : α} (hi : i ≤ L.length) (hc : L.length + 1 ≤ c) (hl : ((L.take i).flatMap Lay.cells ++ zs).length = c * Lay.size α)
    (h : (rawR e (Lay.size α) g c (setAt (setAt ((L.take i).flatMap Lay.cells ++ zs) (i * Lay.size α) ([x].flatMap Lay.cells)) (i * Lay.size α + Lay.size α) ((L.drop i).flatMap Lay.cells))).p w) : (rowA e (some ⟨g, 0, none⟩) c (L.take i ++ [x] ++ L.drop i)).p w := by
  refine ins_row h hi (ins_cells2 ?_ ?_ (one_len x) (by rw [hl]; exact ins_fit hi hc)) hc
  · have h0 : ((L.take i).flatMap Lay.cells).length = i * Lay.size α := by rw [flat_len, List.length_take, Nat.min_eq_left hi]
    rw [← h0, List.take_left]
  · rw [hl]; exact Nat.mul_le_mul_right _ (by omega)
theorem ins_row2 {α : Type} [Lay α] {e g c : Nat} {zs : List Value} {w : World} {L : List α} {i : Nat} {x : α} (hi : i ≤ L.length) (hc : L.length + 1 ≤ c) (hl : (L.flatMap Lay.cells ++ zs).length = c * Lay.size α)
    (h : (rawR e (Lay.size α) g c (setAt (setAt (L.flatMap Lay.cells ++ zs) (i * Lay.size α + Lay.size α) ((L.drop i).flatMap Lay.cells)) (i * Lay.size α) ([x].flatMap Lay.cells))).p w) : (rowA e (some ⟨g, 0, none⟩) c (L.take i ++ [x] ++ L.drop i)).p w := by
  refine ins_row h hi (ins_cells ?_ ?_ (one_len x) (by rw [hl]; exact ins_fit hi hc)) hc
  · rw [List.take_append_of_le_length (by rw [flat_len]; exact Nat.mul_le_mul_right _ hi), flat_take]
  · rw [hl]; exact Nat.mul_le_mul_right _ (by omega)
/-- the rest of a row that lies in a raw block -/
theorem raw_srcDrop {α : Type} [Lay α] {e g c : Nat} {zs : List Value} {w : World} {L : List α} {i : Nat} (hi : i ≤ L.length) (h : (rawR e (Lay.size α) g c (L.flatMap Lay.cells ++ zs)).p w) : SrcAt w (some ⟨g, i * Lay.size α, none⟩) (L.length - i) ((L.drop i).flatMap Lay.cells) := by
  show CellsAt w _ _
  have h4 := (raw_src h (i * Lay.size α)).take (((L.drop i).flatMap Lay.cells).length)
  rw [List.drop_append_of_le_length (by rw [flat_len]; exact Nat.mul_le_mul_right _ hi), flat_drop, List.take_left] at h4
  exact h4
/-- what was there is there still, beside what has turned -/
theorem blkR_kpn {b ty : Nat} {vs : List Value} {m : List Nat} {w w' : World} (h : (blkR b ty vs).p w) (k : Kp m w w') (hn : b ∉ m) : (blkR b ty vs).p w' := (blkR b ty vs).st (fun x hx => k.block x (blkR_lt h x hx) (by
  have h2 : x = b := by simpa [blkR] using hx
  rw [h2]
  exact hn)) h
theorem blkR_src1 {α : Type} [Lay α] {b ty : Nat} {x : α} {w : World} (h : (blkR b ty (Lay.cells x)).p w) : SrcAt w (some ⟨b, 0, none⟩) 1 ([x].flatMap Lay.cells) := by
  show CellsAt w ⟨b, 0, none⟩ _
  have h9 := blkR_at h
  simpa using h9
/-- the block of a pointer is none of the facts' -/
theorem WS.ne_head {m : List Nat} {w0 : World} {bs : List Nat} {loc : List Blk} {R : List Res} {w : World} {r : Res} (h : WS m w0 bs loc (r :: R) w) {i : Nat} {b : Blk} (hb : loc[i]? = some b) : bs.getD i 0 ∉ r.fp := fun hm => by
  have h1 := h.mem_bs hb
  have h2 := (List.nodup_append.1 h.nd).2.2
  exact h2 _ h1 _ (by rw [List.flatMap_cons]; exact List.mem_append_left _ hm) rfl
end Go.Proofs.YtbjakddkfgjkaaaGreat.Fw
namespace Go.Proofs.YtbjakddkfgjkaaaGreat.Fw
open Go.RowKit
/-! ### stores into rows of ours, in a region that draws -/
theorem WS.disj {m : List Nat} {w0 : World} {bs : List Nat} {loc : List Blk} {R : List Res} {w : World} {r1 r2 : Res} (h : WS m w0 bs loc (r1 :: R) w) (h2 : r2 ∈ R) : ∀ b, b ∈ r2.fp → b ∉ r1.fp := fun b hb hb1 => by
  have h3 := (List.nodup_append.1 h.nd).2.1
  rw [List.flatMap_cons] at h3
  exact (List.nodup_append.1 h3).2.2 b hb1 b (List.mem_flatMap.2 ⟨r2, h2, hb⟩) rfl
end Go.Proofs.YtbjakddkfgjkaaaGreat.Fw

namespace Go.Proofs.YtbjakddkfgjkaaaGreat.Fw
open Go.RowKit
/-! ### calls in regions that draw: blocks turned, and something new besides -/
/-- what a call that turns the fact at the head, and hands back something new, gives -/
def TurnedN (r0 : Res) (w w' : World) (r rn : Res) : Prop := Turned r0 w w' r ∧ rn.p w' ∧ rn.fp.Nodup ∧ (∀ b, b ∈ rn.fp → w.heap.size ≤ b ∧ b < w'.heap.size) ∧ ∀ b, b ∈ rn.fp → b ∉ r.fp
theorem WS.turnN {m : List Nat} {w0 : World} {bs : List Nat} {loc : List Blk} {R : List Res} {w w' : World} {r0 r rn : Res} (hS : WS m w0 bs loc (r0 :: R) w) (h : TurnedN r0 w w' r rn) : WS m w0 bs loc (rn :: r :: R) w' := by
  obtain ⟨h3, h4, h5, h6, h7⟩ := h
  have hS' := hS.turn h3.1 _ h3.2.1 h3.2.2.1 h3.2.2.2
  refine hS'.new _ h4 h5 fun b hb => ⟨.inl (Nat.le_trans hS.kp.size (h6 b hb).1), (h6 b hb).2, fun hm => ?_⟩
  have h8 := (h6 b hb).1
  rcases List.mem_append.1 hm with hm | hm
  · have := (hS.lo b (List.mem_append_left _ hm)).2; omega
  · rw [List.flatMap_cons] at hm
    rcases List.mem_append.1 hm with hm | hm
    · exact h7 b hb hm
    · have := (hS.lo b (List.mem_append_right _ (by rw [List.flatMap_cons]; exact List.mem_append_right _ hm))).2; omega
/-- what such a call gives, out of what is known at its end: the fact that is turned first -/
theorem WS.turnedN {w0 : World} {bs : List Nat} {loc : List Blk} {Rs : List Res} {w : World} {r0 r : Res} (h : WS r0.fp w0 bs loc (r :: Rs) w) (hf : ∀ b, b ∈ r0.fp → b ∈ r.fp) : TurnedN r0 w0 w r (allR Rs) := by
  have hnd := (List.nodup_append.1 h.nd).2.1
  rw [List.flatMap_cons] at hnd
  refine ⟨h.turned, fun q hq => h.res q (.tail _ hq), (List.nodup_append.1 hnd).2.1, fun b hb => ?_, fun b hb hr => (List.nodup_append.1 hnd).2.2 b hr b hb rfl⟩
  have h1 := h.lo b (List.mem_append_right _ (by rw [List.flatMap_cons]; exact List.mem_append_right _ hb))
  refine ⟨h1.1.resolve_right fun hm => (List.nodup_append.1 hnd).2.2 b (hf b hm) b hb rfl, h1.2⟩
theorem TurnedN.as {r0 r rn rn' : Res} {w w' : World} (h : TurnedN r0 w w' r rn) (hp : rn.p w' → rn'.p w') (hf : rn'.fp = rn.fp) : TurnedN r0 w w' r rn' := by
  obtain ⟨h1, h2, h3, h4, h5⟩ := h
  exact ⟨h1, hp h2, by rw [hf]; exact h3, fun b hb => h4 b (by rw [← hf]; exact hb), fun b hb => h5 b (by rw [← hf]; exact hb)⟩
theorem allR_one (r : Res) (w : World) (h : (allR [r]).p w) : r.p w := h _ (.head _)
theorem allR_one_fp (r : Res) : r.fp = (allR [r]).fp := by simp [allR]
end Go.Proofs.YtbjakddkfgjkaaaGreat.Fw

