/-
  Rows of the call's own that are written, cut and cleared; calls that turn what is known; blocks of others.
  Conditions: none beyond those that each theorem states.
-/
import Derived.LoopN
import Derived.Lib.AppendZerosOnto
import Derived.Lib.Overlaps
import Derived.Test.YtececkgjacccmaeFc
set_option linter.unusedVariables false
set_option linter.unusedSimpArgs false
namespace Go.Proofs.Ytececkgjacccmae.Fw
open Go.RowKit

/-! ### loops turned out -/
theorem c_unroll {C : Cx} {R : List Res} {s : SS} {Q : Exit → Act → World → Prop} {c : Code} {n : Nat} (h : JC C c (Exit.then (Code.rounds C.P c Q n) Q) R s) : JC C (.loop c) Q R s := fun a w hs => wp_loop_rounds (n + 1) (h a w hs)
theorem q_round {C : Cx} {R : List Res} {s : SS} {Q : Exit → Act → World → Prop} {c : Code} {n : Nat} (h : JC C c (Exit.then (Code.rounds C.P c Q n) Q) R s) : JQ C (Exit.then (Code.rounds C.P c Q (n + 1)) Q) .normal R s := fun a w hs => h a w hs

/-! ### rows as raw blocks -/
def rawR (e size g c : Nat) (cur : List Value) : Res where
  fp := [g]
  p := fun w => w.heap[g]? = some (.cells cur.toArray e (0, 0)) ∧ cur.length = c * size ∧ c ≤ maxLen
  st := by
    intro w w' h ⟨h1, h2⟩
    exact ⟨by rw [h g (by simp)]; exact h1, h2⟩
theorem row_raw {e size : Nat} {A : Option Addr} {n c : Nat} {xs : List Value} {w : World} (h : (rowR e size A n c xs).p w) : xs.length = n * size ∧ ((A = none ∧ n = 0 ∧ c = 0) ∨ ∃ g zs, A = some ⟨g, 0, none⟩ ∧ (rawR e size g c (xs ++ zs)).p w ∧ n ≤ c) := by
  have h' : w.ownsRow 0 e size (.slice A n c) n xs := h
  refine ⟨h'.1, ?_⟩
  rcases h'.2 with ⟨e1, e2⟩ | ⟨g, cap, cur, e1, e2, e3, e4, e5, e6, e7⟩
  · injection e1 with e3 e4 e5
    exact .inl ⟨e3, e4, e5⟩
  · injection e1 with e8 _ e9
    subst e8 e9
    refine .inr ⟨g, cur.toList.drop (n * size), rfl, ⟨?_, ?_, e5⟩, e4⟩
    · rw [← e7, List.take_append_drop]; exact e3
    · rw [← e7, List.take_append_drop]; simpa using e6
theorem raw_row {e size g c : Nat} {cur : List Value} {w : World} (h : (rawR e size g c cur).p w) (n : Nat) (hn : n ≤ c) : (rowR e size (some ⟨g, 0, none⟩) n c (cur.take (n * size))).p w := by
  have hl : n * size ≤ cur.length := by rw [h.2.1]; exact Nat.mul_le_mul_right _ hn
  refine ⟨by rw [List.length_take]; exact Nat.min_eq_left hl, .inr ⟨g, c, cur.toArray, rfl, Nat.zero_le _, h.1, hn, h.2.2, by simpa using h.2.1, by simp⟩⟩
/-- where a row begins -/
abbrev oad (A : Option Addr) : Addr := A.getD ⟨0, 0, none⟩
theorem addr_at (g k : Nat) : (⟨g, 0, none⟩ : Addr).add k = ⟨g, k, none⟩ := by unfold Addr.add; split <;> simp_all
theorem addr_add (a : Addr) (i j : Nat) : (a.add i).add j = a.add (i + j) := by
  by_cases h1 : i = 0
  · subst h1; simp [Addr.add]
  · by_cases h2 : j = 0
    · subst h2; simp [Addr.add]
    · have h3 : ¬ i + j = 0 := by omega
      simp [Addr.add, h1, h2, Nat.add_assoc]

/-! ### elements of a row -/
theorem getD_some {α : Type} [Inhabited α] {L : List α} {i : Nat} (hi : i < L.length) : L[i]? = some (L.getD i default) := by
  rw [List.getD_eq_getElem?_getD, List.getElem?_eq_getElem hi]; rfl
theorem rowA_own {α : Type} [Lay α] {e : Nat} {A : Option Addr} {c : Nat} {L : List α} {w : World} (h : (rowA e A c L).p w) {i : Nat} (hi : i < L.length) : A = some (oad A) := by
  obtain ⟨_, _, h3⟩ := rowA_get h
  obtain ⟨g, rfl, _⟩ := h3 i _ (getD_some hi)
  rfl
theorem rowA_at {α : Type} [Lay α] {e : Nat} {A : Option Addr} {c : Nat} {L : List α} {w : World} (h : (rowA e A c L).p w) {i : Nat} (hi : i < L.length) : CellsAt w ((oad A).add (i * Lay.size α)) (Lay.cells (L.getD i default)) := by
  obtain ⟨_, _, h3⟩ := rowA_get h
  obtain ⟨g, rfl, hc⟩ := h3 i _ (getD_some hi)
  exact hc
theorem rowA_all {α : Type} [Lay α] {e : Nat} {A : Option Addr} {c : Nat} {L : List α} {w : World} (h : (rowA e A c L).p w) {i : Nat} (hi : i < L.length) {vs : List Value} (hv : Lay.cells (L.getD i default) = vs) : CellsAt w ((oad A).add (i * Lay.size α)) vs := by
  subst hv
  exact rowA_at h hi
theorem rowA_nc {α : Type} [Lay α] {e : Nat} {A : Option Addr} {c : Nat} {L : List α} {w : World} (h : (rowA e A c L).p w) : L.length ≤ c ∧ c ≤ 9223372036854775807 := by
  obtain ⟨h1, h2, _⟩ := rowA_get h
  exact ⟨h1, by unfold maxLen at h2; omega⟩
/-- what is known of a row's place, in every world -/
def RowOk {α : Type} (A : Option Addr) (c : Nat) (L : List α) : Prop := (∀ i, i < L.length → A = some (oad A)) ∧ L.length ≤ c ∧ c ≤ 9223372036854775807
theorem rowA_rok {α : Type} [Lay α] {e : Nat} {A : Option Addr} {c : Nat} {L : List α} {w : World} (h : (rowA e A c L).p w) : RowOk A c L := ⟨fun _ hi => rowA_own h hi, rowA_nc h⟩

/-! ### parts of what is owned -/
/-- a weaker fact -/
theorem WS.weak {m : List Nat} {w0 : World} {bs : List Nat} {loc : List Blk} {R : List Res} {w : World} {r : Res} (h : WS m w0 bs loc (r :: R) w) (r' : Res) (hf : r'.fp.Sublist r.fp) (hp : r.p w → r'.p w) : WS m w0 bs loc (r' :: R) w := by
  have hs : ((r' :: R).flatMap Res.fp).Sublist ((r :: R).flatMap Res.fp) := by simp only [List.flatMap_cons]; exact hf.append (List.Sublist.refl _)
  refine ⟨h.kp, h.len, h.loc, fun x hx => ?_, h.nd.sublist ((List.Sublist.refl _).append hs), fun b hb => h.lo b (((List.Sublist.refl _).append hs).subset hb)⟩
  rcases List.mem_cons.1 hx with rfl | hx
  · exact hp (h.res _ (.head _))
  · exact h.res _ (.tail _ hx)
theorem Lw {C : Cx} {R : List Res} {s : SS} {ops : Array Oper} {Q : Exit → Act → World → Prop} {l : List Oper} {r : Res} (r' : Res) (hf : r'.fp.Sublist r.fp) (hp : ∀ w, r.p w → r'.p w) (h : JL C ops Q (r' :: R) s l) : JL C ops Q (r :: R) s l := fun a w ⟨bs, h1, h2, hS⟩ => h a w ⟨bs, h1, h2, hS.weak r' hf (hp w)⟩
theorem mem_of_getD {α : Type} [Inhabited α] {L : List α} {i : Nat} (hi : i < L.length) : L.getD i default ∈ L := List.mem_of_getElem? (getD_some hi)
/-! ### calls that turn blocks of ours -/
theorem l_call {C : Cx} {R : List Res} {s : SS} {ops : Array Oper} {Q : Exit → Act → World → Prop} {rest : List Oper} {d : Option Nat} {ty : Nat} {pos : String} {aft : Array Edge} {g : Option (Nat × Bool)} {f : Operand} {args : Array Operand} {ats : Array Nat} {σ : Type}
    (fid : Nat) (caps : List (Nat × Nat)) (xs : List SV) (val : σ → SV) (loc' : σ → List Blk) (R' : σ → List Res) (hcall : ∀ args w, (callFunc fid args).run C.P w = .ok (.enter fid args) w) (hd : dstOK C.n d = true)
    (hg : gd ops s ⟨d, .call ⟨.value f, args, ats⟩, ty, pos, aft, g⟩ = some true) (hf : ev s f = some (.fn fid caps)) (hx : evs s args.toList = some xs)
    (hc : ∀ bs w, WS C.m C.w0 bs s.loc R w → Calls C.P fid (xs.map (den bs) ++ capVals bs caps).toArray w fun e w' => ∃ y, e = .returned (den bs (val y)) ∧ WS C.m C.w0 bs (loc' y) (R' y) w')
    (hJ : ∀ y, JL C ops Q (R' y) ⟨putE s.env d (val y), loc' y⟩ rest) : JL C ops Q R s (⟨d, .call ⟨.value f, args, ats⟩, ty, pos, aft, g⟩ :: rest) :=
  l_does val loc' R' hd hg (d_call fid caps xs val loc' R' hcall hf hx hc) hJ
/-- only the block of a pointer has turned; something new besides -/
theorem WS.blkNew {m : List Nat} {w0 : World} {bs : List Nat} {loc : List Blk} {R : List Res} {w w' : World} (h : WS m w0 bs loc R w) (i : Nat) (b : Blk) (hb : loc[i]? = some b) (cs : List SV) (k : Kp [bs.getD i 0] w w') (hw : w'.heap[bs.getD i 0]? = some (.cells (cs.map (den bs)).toArray b.ty (0, 0))) (r : Res) (hr : Fresh w w' r) :
    WS m w0 bs (loc.set i ⟨b.ty, cs⟩) (r :: R) w' := by
  refine (h.blk i b hb cs k hw).new r hr.1 hr.2.1 fun x hx => ?_
  have h3 := hr.2.2 x hx
  refine ⟨.inl (Nat.le_trans h.kp.size h3.1), h3.2, fun hm => ?_⟩
  have := (h.lo x hm).2
  omega
theorem Lb {C : Cx} {R : List Res} {s : SS} {ops : Array Oper} {Q : Exit → Act → World → Prop} {rest : List Oper} {d : Option Nat} {ty : Nat} {pos : String} {aft : Array Edge} {g : Option (Nat × Bool)} {f : Operand} {args : Array Operand} {ats : Array Nat} {σ : Type}
    (fid : Nat) (caps : List (Nat × Nat)) (xs : List SV) (i : Nat) (b : Blk) (v : σ → Value) (cs : σ → List SV) (F : σ → Prop) (hb : s.loc[i]? = some b) (hne : b.cs ≠ []) (hcall : ∀ args w, (callFunc fid args).run C.P w = .ok (.enter fid args) w) (hd : dstOK C.n d = true)
    (hg : gd ops s ⟨d, .call ⟨.value f, args, ats⟩, ty, pos, aft, g⟩ = some true) (hf : ev s f = some (.fn fid caps)) (hx : evs s args.toList = some xs)
    (hc : ∀ bs w, WS C.m C.w0 bs s.loc R w → w.heap[bs.getD i 0]? = some (.cells (b.cs.map (den bs)).toArray b.ty (0, 0)) → Calls C.P fid (xs.map (den bs) ++ capVals bs caps).toArray w fun e w' => ∃ y, e = .returned (v y) ∧ F y ∧ Kp [bs.getD i 0] w w' ∧ w'.heap[bs.getD i 0]? = some (.cells ((cs y).map (den bs)).toArray b.ty (0, 0)))
    (hJ : ∀ y, F y → JL C ops Q R ⟨putE s.env d (.v (v y)), s.loc.set i ⟨b.ty, cs y⟩⟩ rest) : JL C ops Q R s (⟨d, .call ⟨.value f, args, ats⟩, ty, pos, aft, g⟩ :: rest) :=
  l_call (σ := { y : σ // F y }) fid caps xs (fun y => .v (v y.1)) (fun y => s.loc.set i ⟨b.ty, cs y.1⟩) (fun _ => R) hcall hd hg hf hx
    (fun bs w hS => (hc bs w hS (hS.loc i b hb hne)).mono fun _ _ ⟨y, h1, h2, h3, h4⟩ => ⟨⟨y, h2⟩, h1, hS.blk i b hb _ h3 h4⟩) fun y => hJ y.1 y.2
theorem l_blkR {C : Cx} {R : List Res} {s : SS} {ops : Array Oper} {Q : Exit → Act → World → Prop} {rest : List Oper} {d : Option Nat} {ty : Nat} {pos : String} {aft : Array Edge} {g : Option (Nat × Bool)} {f : Operand} {args : Array Operand} {ats : Array Nat} {σ : Type}
    (fid : Nat) (caps : List (Nat × Nat)) (xs : List SV) (i : Nat) (b : Blk) (v : σ → Value) (cs : σ → List SV) (F : σ → Prop) (r : σ → Res) (hb : s.loc[i]? = some b) (hne : b.cs ≠ []) (hcall : ∀ args w, (callFunc fid args).run C.P w = .ok (.enter fid args) w) (hd : dstOK C.n d = true)
    (hg : gd ops s ⟨d, .call ⟨.value f, args, ats⟩, ty, pos, aft, g⟩ = some true) (hf : ev s f = some (.fn fid caps)) (hx : evs s args.toList = some xs)
    (hc : ∀ bs w, WS C.m C.w0 bs s.loc R w → w.heap[bs.getD i 0]? = some (.cells (b.cs.map (den bs)).toArray b.ty (0, 0)) → Calls C.P fid (xs.map (den bs) ++ capVals bs caps).toArray w fun e w' => ∃ y, e = .returned (v y) ∧ F y ∧ Kp [bs.getD i 0] w w' ∧ w'.heap[bs.getD i 0]? = some (.cells ((cs y).map (den bs)).toArray b.ty (0, 0)) ∧ Fresh w w' (r y))
    (hJ : ∀ y, F y → JL C ops Q (r y :: R) ⟨putE s.env d (.v (v y)), s.loc.set i ⟨b.ty, cs y⟩⟩ rest) : JL C ops Q R s (⟨d, .call ⟨.value f, args, ats⟩, ty, pos, aft, g⟩ :: rest) :=
  l_call (σ := { y : σ // F y }) fid caps xs (fun y => .v (v y.1)) (fun y => s.loc.set i ⟨b.ty, cs y.1⟩) (fun y => r y.1 :: R) hcall hd hg hf hx
    (fun bs w hS => (hc bs w hS (hS.loc i b hb hne)).mono fun _ _ ⟨y, h1, h2, h3, h4, h5⟩ => ⟨⟨y, h2⟩, h1, hS.blkNew i b hb _ h3 h4 _ h5⟩) fun y => hJ y.1 y.2
/-- a call that turns the fact at the head -/
theorem Lt {C : Cx} {R : List Res} {s : SS} {ops : Array Oper} {Q : Exit → Act → World → Prop} {rest : List Oper} {d : Option Nat} {ty : Nat} {pos : String} {aft : Array Edge} {g : Option (Nat × Bool)} {f : Operand} {args : Array Operand} {ats : Array Nat} {σ : Type} {r0 : Res}
    (fid : Nat) (caps : List (Nat × Nat)) (xs : List SV) (v : σ → Value) (F : σ → Prop) (r : σ → Res) (hcall : ∀ args w, (callFunc fid args).run C.P w = .ok (.enter fid args) w) (hd : dstOK C.n d = true)
    (hg : gd ops s ⟨d, .call ⟨.value f, args, ats⟩, ty, pos, aft, g⟩ = some true) (hf : ev s f = some (.fn fid caps)) (hx : evs s args.toList = some xs)
    (hc : ∀ bs w, WS C.m C.w0 bs s.loc (r0 :: R) w → Calls C.P fid (xs.map (den bs) ++ capVals bs caps).toArray w fun e w' => ∃ y, e = .returned (v y) ∧ F y ∧ Kp r0.fp w w' ∧ (r y).p w' ∧ (r y).fp.Nodup ∧ ∀ b, b ∈ (r y).fp → b ∈ r0.fp ∨ (w.heap.size ≤ b ∧ b < w'.heap.size))
    (hJ : ∀ y, F y → JL C ops Q (r y :: R) ⟨putE s.env d (.v (v y)), s.loc⟩ rest) : JL C ops Q (r0 :: R) s (⟨d, .call ⟨.value f, args, ats⟩, ty, pos, aft, g⟩ :: rest) :=
  l_call (σ := { y : σ // F y }) fid caps xs (fun y => .v (v y.1)) (fun _ => s.loc) (fun y => r y.1 :: R) hcall hd hg hf hx
    (fun bs w hS => (hc bs w hS).mono fun _ _ ⟨y, h1, h2, h3, h4, h5, h6⟩ => ⟨⟨y, h2⟩, h1, hS.turn h3 _ h4 h5 h6⟩) fun y => hJ y.1 y.2
/-- what such a call gives, out of what is known at its end -/
def Turned (r0 : Res) (w w' : World) (r : Res) : Prop := Kp r0.fp w w' ∧ r.p w' ∧ r.fp.Nodup ∧ ∀ b, b ∈ r.fp → b ∈ r0.fp ∨ (w.heap.size ≤ b ∧ b < w'.heap.size)
theorem WS.turned {w0 : World} {bs : List Nat} {loc : List Blk} {R : List Res} {w : World} {r0 r : Res} (h : WS r0.fp w0 bs loc (r :: R) w) : Turned r0 w0 w r := by
  have h2 := h.sub (R' := [r]) (List.Sublist.cons_cons _ (List.nil_sublist _))
  refine ⟨h.kp, h.res _ (.head _), ?_, fun b hb => ?_⟩
  · have := (List.nodup_append.1 h2.nd).2.1
    simpa using this
  · have := h2.lo b (by simp [hb])
    rcases this.1 with h3 | h3
    · exact .inr ⟨h3, this.2⟩
    · exact .inl h3
theorem WS.start1 (w : World) (r : Res) (hp : r.p w) (hn : r.fp.Nodup) (hl : ∀ b, b ∈ r.fp → b < w.heap.size) : WS r.fp w [] [] [r] w := ⟨Kp.refl _ _, rfl, fun i b hb => by simp at hb, fun x hx => by rw [List.mem_singleton] at hx; subst hx; exact hp, by simpa using hn, fun b hb => by
  have hb' : b ∈ r.fp := by simpa using hb
  exact ⟨.inr hb', hl b hb'⟩⟩
end Go.Proofs.Ytececkgjacccmae.Fw
namespace Go.Proofs.Ytececkgjacccmae.Fw
open Go.RowKit
end Go.Proofs.Ytececkgjacccmae.Fw

namespace Go.Proofs.Ytececkgjacccmae.Fw
open Go.RowKit

/-! ### things without what lies behind their slices -/
structure Fl (α : Type) where
  v : α
  deriving Inhabited
instance {α : Type} [Lay α] : Lay (Fl α) where
  size := Lay.size α
  pos := Lay.pos
  cells x := Lay.cells x.v
  len x := Lay.len x.v
  one x := Lay.one x.v
  sub _ _ _ := True
  stay _ _ := trivial
  wide _ _ := trivial
  ok _ := True
  okof _ := trivial
  small _ := True
abbrev fls {α : Type} (L : List α) : List (Fl α) := L.map Fl.mk
theorem Sl.rd.fl {α : Type} [Lay α] {B : Nat → Prop} {w : World} {s : Sl α} (h : s.rd B w) : Sl.rd B w (⟨s.A, s.c, fls s.xs⟩ : Sl (Fl α)) := by
  refine ⟨by simpa [Sl.n] using h.1, h.2.1, fun i x hx => ?_⟩
  simp only [fls, List.getElem?_map] at hx
  cases hy : s.xs[i]? with
  | none => rw [hy] at hx; cases hx
  | some y =>
    rw [hy] at hx
    simp only [Option.map_some, Option.some.injEq] at hx
    subst hx
    exact ⟨(h.2.2 i y hy).1, trivial⟩
/-! ### rows of things as raw blocks -/
theorem rowA_raw {α : Type} [Lay α] {e : Nat} {A : Option Addr} {c : Nat} {L : List α} {w : World} (h : (rowA e A c L).p w) : (A = none ∧ L = [] ∧ c = 0) ∨ ∃ g zs, A = some ⟨g, 0, none⟩ ∧ (rawR e (Lay.size α) g c (L.flatMap Lay.cells ++ zs)).p w ∧ L.length ≤ c := by
  obtain ⟨_, h2⟩ := row_raw h
  rcases h2 with ⟨h3, h4, h5⟩ | h2
  · exact .inl ⟨h3, List.eq_nil_of_length_eq_zero h4, h5⟩
  · exact .inr h2
theorem raw_rowA {α : Type} [Lay α] {e g c : Nat} {cur : List Value} {w : World} (h : (rawR e (Lay.size α) g c cur).p w) (M : List α) (hM : cur.take (M.length * Lay.size α) = M.flatMap Lay.cells) (hn : M.length ≤ c) : (rowA e (some ⟨g, 0, none⟩) c M).p w := by
  have := raw_row h M.length hn
  rw [hM] at this
  exact this
theorem flat_take {α : Type} [Lay α] : ∀ (L : List α) (k : Nat), (L.flatMap Lay.cells).take (k * Lay.size α) = (L.take k).flatMap Lay.cells
  | [], k => by simp
  | x :: r, 0 => by simp
  | x :: r, k + 1 => by
    have ih := flat_take r k
    have hx := Lay.len x
    simp only [List.flatMap_cons, List.take_succ_cons]
    rw [← ih, Nat.succ_mul, List.take_append, List.take_of_length_le (by omega), hx]
    congr 2
    omega
/-- slices of a row, from a place on -/
def offA (A : Option Addr) (c o size : Nat) : Option Addr := if c = o then A else A.map (·.add (o * size))
end Go.Proofs.Ytececkgjacccmae.Fw
namespace Go.Proofs.Ytececkgjacccmae.Fw
open Go.RowKit
end Go.Proofs.Ytececkgjacccmae.Fw
namespace Go.Proofs.Ytececkgjacccmae.Fw
open Go.RowKit
end Go.Proofs.Ytececkgjacccmae.Fw
namespace Go.Proofs.Ytececkgjacccmae.Fw
open Go.RowKit
/-- a block of somebody else's, as it is -/
def blkR (b ty : Nat) (vs : List Value) : Res := ⟨[b], fun w => w.heap[b]? = some (.cells vs.toArray ty (0, 0)), fun h p => by rw [h b (by simp)]; exact p⟩
theorem blkR_at {b ty : Nat} {vs : List Value} {w : World} (h : (blkR b ty vs).p w) : CellsAt w ⟨b, 0, none⟩ vs := fun j v hj => by
  have h' : w.heap[b]? = some (.cells vs.toArray ty (0, 0)) := h
  rw [addr_at]
  simp only [World.cell?, h']
  simpa using hj
theorem blkR_fld {b ty : Nat} {vs : List Value} {w : World} (h : (blkR b ty vs).p w) (off n : Nat) {us : List Value} (hv : (vs.drop off).take n = us) : CellsAt w ((⟨b, 0, none⟩ : Addr).add off) us := by
  subst hv
  exact (blkR_at h).part off n
theorem blkR_lt {b ty : Nat} {vs : List Value} {w : World} (h : (blkR b ty vs).p w) : ∀ x, x ∈ (blkR b ty vs).fp → x < w.heap.size := fun x hx => by
  have hx' : x = b := by simpa [blkR] using hx
  subst hx'
  have h' : w.heap[x]? = some (.cells vs.toArray ty (0, 0)) := h
  rcases Nat.lt_or_ge x w.heap.size with h1 | h1
  · exact h1
  · rw [Array.getElem?_eq_none h1] at h'; cases h'
end Go.Proofs.Ytececkgjacccmae.Fw

namespace Go.Proofs.Ytececkgjacccmae.Fw
open Go.RowKit
/-- a store into a block that is known as a fact -/
theorem blkR_write {P : Program} {b ty : Nat} {vs : List Value} {w : World} (h : (blkR b ty vs).p w) (off : Nat) (us : List Value) (h1 : ∀ v, v ∈ us → v.oneCell' = true) (hfit : off + us.length ≤ vs.length) :
    ∃ w', (storeCells ⟨b, off, none⟩ us).run P w = .ok () w' ∧ Kp [b] w w' ∧ (blkR b ty (setAt vs off us)).p w' := by
  obtain ⟨w', h2, h3, h4, _⟩ := storeCells_ok P b ty us 0 off w vs h1 h (by simpa using hfit)
  exact ⟨w', h2, h4, h3⟩
theorem l_storeB {C : Cx} {R' : List Res} {s : SS} {ops : Array Oper} {Q : Exit → Act → World → Prop} {rest : List Oper} {d : Option Nat} {ty0 : Nat} {pos : String} {aft : Array Edge} {g : Option (Nat × Bool)} {T : Nat} {A X : Operand} (b ty : Nat) (vs : List Value) (off : Nat) (ad : Addr) (sx : SV) (cs : List SV) (us vs2 : List Value)
    (had : ad = (⟨b, 0, none⟩ : Addr).add off) (hA : ev s A = some (.v (.pointer (some ad)))) (hx : ev s X = some sx) (hcs : cellsOfSV sx = some cs) (hvs : valsOf cs = some us) (hT : Nat.beq us.length (C.P.cellsOf T) = true) (hT0 : Nat.beq (C.P.cellsOf T) 0 = false) (hone : us.all Value.oneCell' = true) (hoff : Nat.ble (off + us.length) vs.length = true)
    (h2 : setAt vs off us = vs2) (hd : dstOK C.n d = true) (hg : gd ops s ⟨d, .store T A X, ty0, pos, aft, g⟩ = some true)
    (hJ : JL C ops Q (blkR b ty vs2 :: R') ⟨putE s.env d (.v undef), s.loc⟩ rest) : JL C ops Q (blkR b ty vs :: R') s (⟨d, .store T A X, ty0, pos, aft, g⟩ :: rest) := by
  subst h2
  refine l_does (σ := Unit) (fun _ => .v undef) (fun _ => s.loc) (fun _ => blkR b ty (setAt vs off us) :: R') hd hg (d_store ad sx (blkR b ty (setAt vs off us) :: R') hA hx fun bs w hS => ?_) fun _ => hJ
  have hv : (den bs sx).cells.toList = us := by rw [cellsOfSV_cells bs hcs, valsOf_sound bs hvs]
  have hT1 := Nat.eq_of_beq_eq_true hT
  have hT2 : C.P.cellsOf T ≠ 0 := fun h => by rw [h] at hT0; cases hT0
  obtain ⟨w', h3, h4, h5⟩ := blkR_write (P := C.P) (hS.res _ (.head _)) off us (fun v hv => List.all_eq_true.1 hone v hv) (Nat.le_of_ble_eq_true hoff)
  refine ⟨w', ?_, hS.turn h4 _ h5 (by simp [blkR]) (fun x hx => .inl hx)⟩
  have hsz : (den bs sx).cells.size = C.P.cellsOf T := by rw [← Array.length_toList, hv, hT1]
  rw [had, addr_at]
  simp only [storeVar, Sem.run_bind, sizeOf_run C.P T w (info_of_cells hT2), Result.andThen_ok, hsz, ne_eq, not_true_eq_false, if_false, hv]
  exact h3
end Go.Proofs.Ytececkgjacccmae.Fw
namespace Go.Proofs.Ytececkgjacccmae.Fw
end Go.Proofs.Ytececkgjacccmae.Fw
namespace Go.Proofs.Ytececkgjacccmae.Fw
open Go.RowKit
end Go.Proofs.Ytececkgjacccmae.Fw
namespace Go.Proofs.Ytececkgjacccmae.Fw
open Go.RowKit
theorem d_appendA {α : Type} [Lay α] {C : Cx} {R' : List Res} {s : SS} {d : Option Nat} {ty : Nat} {pos : String} {aft : Array Edge} {g : Option (Nat × Bool)} {X1 X2 : Operand} {t : Nat} (e bytes : Nat)
    (A : Option Addr) (c : Nat) (L : List α) (x2 : SV) (L2 : List α) (ht : C.P.underlying t = some (.slice e)) (hi : infoB C.P e (Lay.size α) bytes = true)
    (h1 : ev s X1 = some (.v (.slice A L.length c))) (h2 : ev s X2 = some x2) (hsrc : ∀ bs w, WS C.m C.w0 bs s.loc (rowA e A c L :: R') w → ∃ A2 c2, den bs x2 = .slice A2 L2.length c2 ∧ SrcAt w A2 L2.length (L2.flatMap Lay.cells))
    (h63 : L.length + L2.length ≤ 9223372036854775807) (hb : (L.length + L2.length) * bytes ≤ 140737488355328) :
    Does C ⟨d, .call ⟨.builtin .append, #[X1, X2], #[t, t]⟩, ty, pos, aft, g⟩ (rowA e A c L :: R') s (σ := Option Addr × Nat) (fun y => .v (.slice y.1 (L ++ L2).length y.2)) (fun _ => s.loc) (fun y => rowA e y.1 y.2 (L ++ L2) :: R') := by
  refine d_builtin (σ := Option Addr × Nat) [.v (.slice A L.length c), x2] _ _ _ (by simp [evs, h1, h2]) fun bs w cs hS => ?_
  obtain ⟨A2, c2, hx, hc⟩ := hsrc bs w hS
  have e1 : ([SV.v (.slice A L.length c), x2].map (den bs)) = [Value.slice A L.length c, .slice A2 L2.length c2] := by rw [List.map_cons, List.map_cons, hx]; rfl
  rw [e1]
  simp only [builtin, Sem.run_bind]
  cases A2 with
  | some a =>
    obtain ⟨A', c', w', h3, h4⟩ := append_run t ty e (Lay.size α) bytes A L.length c (L.flatMap Lay.cells) hS ht hi Lay.pos a L2.length c2 (L2.flatMap Lay.cells) (flat_len L2) hc (flat_one L2) (by unfold maxLen; omega) hb
    rw [← List.flatMap_append, ← List.length_append] at h4
    refine ⟨(A', c'), w', ?_, h4⟩
    rw [h3, List.length_append]
    rfl
  | none =>
    have hk : L2.length = 0 := hc
    have hv : L2 = [] := List.eq_nil_of_length_eq_zero hk
    subst hv
    have hnc : L.length ≤ c := (rowA_get (hS.res _ (.head _))).1
    refine ⟨(A, c), w, ?_, ?_⟩
    · rw [show (([] : List α).length) = 0 from rfl, append_nil_run t ty e A L.length c c2 ht (by
        unfold infoB at hi
        split at hi
        · rename_i i h; simp [h]
        · cases hi) hnc]
      simp [den]
    · rw [List.append_nil]; exact hS
theorem Ha {α : Type} [Lay α] {C : Cx} {ops : Array Oper} {Q : Exit → Act → World → Prop} {R0 : List Res} {loc0 : List Blk} {n : Nat} {R' : List Res} {s : SS} {rest : Tr} {i : Nat} {d : Option Nat} {ty : Nat} {pos : String} {aft : Array Edge} {g : Option (Nat × Bool)} {X1 X2 : Operand} {t : Nat} (e bytes : Nat)
    (A : Option Addr) (c : Nat) (L : List α) (x2 : SV) (L2 : List α) (hoi : ops[i]? = some ⟨d, .call ⟨.builtin .append, #[X1, X2], #[t, t]⟩, ty, pos, aft, g⟩) (ht : C.P.underlying t = some (.slice e)) (hi : infoB C.P e (Lay.size α) bytes = true) (hd : dstOK C.n d = true) (hg : gd ops s ⟨d, .call ⟨.builtin .append, #[X1, X2], #[t, t]⟩, ty, pos, aft, g⟩ = some true)
    (h1 : ev s X1 = some (.v (.slice A L.length c))) (h2 : ev s X2 = some x2) (hsrc : ∀ bs w, WS C.m C.w0 bs s.loc (rowA e A c L :: R') w → ∃ A2 c2, den bs x2 = .slice A2 L2.length c2 ∧ SrcAt w A2 L2.length (L2.flatMap Lay.cells))
    (h63 : L.length + L2.length ≤ 9223372036854775807) (hb : (L.length + L2.length) * bytes ≤ 140737488355328)
    (hS : ∀ bs0 bs A2 c2 w, bs0 <+: bs → loc0.length = bs0.length → WS C.m C.w0 bs s.loc (rowA e A2 c2 (L ++ L2) :: R') w → WS C.m C.w0 bs0 loc0 R0 w)
    (hJ : ∀ A' c', JH C ops Q R0 loc0 n rest (rowA e A' c' (L ++ L2) :: R') ⟨putE s.env d (.v (.slice A' (L ++ L2).length c')), s.loc⟩) : JH C ops Q R0 loc0 n (.b i rest .z) (rowA e A c L :: R') s :=
  h_does (σ := Option Addr × Nat) (fun y => .v (.slice y.1 (L ++ L2).length y.2)) (fun _ => s.loc) (fun y => rowA e y.1 y.2 (L ++ L2) :: R') hoi hd hg (d_appendA e bytes A c L x2 L2 ht hi h1 h2 hsrc h63 hb) (fun bs0 bs y w => hS bs0 bs y.1 y.2 w) fun y => hJ y.1 y.2
theorem Hr {α : Type} [Lay α] {C : Cx} {ops : Array Oper} {Q : Exit → Act → World → Prop} {R0 : List Res} {loc0 : List Blk} {n : Nat} {R : List Res} {s : SS} {order : Tr} (e : Nat) (h : JH C ops Q R0 loc0 n order (rowA e none 0 ([] : List α) :: R) s) : JH C ops Q R0 loc0 n order R s :=
  fun bs0 bs a w hp hsat hS0 => h bs0 bs a w hp ⟨hsat.1, hsat.2.1, hsat.2.2.new _ (rowR_nil e (Lay.size α) w) (by simp [rowA, rowR]) (by simp [rowA, rowR])⟩ hS0
end Go.Proofs.Ytececkgjacccmae.Fw
namespace Go.Proofs.Ytececkgjacccmae.Fw
open Go.RowKit
theorem CellsAt.kp {w0 w : World} {a : Addr} {vs : List Value} (h : CellsAt w0 a vs) (k : Kp [] w0 w) : CellsAt w a vs := h.same fun hlt => k.block _ hlt (by simp)
/-- a part of a slice that reads -/
theorem CellsAt.take {w : World} {a : Addr} {vs : List Value} (h : CellsAt w a vs) (n : Nat) : CellsAt w a (vs.take n) := fun j v hj => by
  rw [List.getElem?_take] at hj
  split at hj
  · exact h j v hj
  · cases hj
end Go.Proofs.Ytececkgjacccmae.Fw
namespace Go.Proofs.Ytececkgjacccmae.Fw
open Go.RowKit
theorem getD_set_ne {α : Type} [Inhabited α] {L : List α} {i j : Nat} {x : α} (h : ¬ i = j) : (L.set i x).getD j default = L.getD j default := by
  rw [List.getD_eq_getElem?_getD, List.getD_eq_getElem?_getD, List.getElem?_set_ne h]
end Go.Proofs.Ytececkgjacccmae.Fw
namespace Go.Proofs.Ytececkgjacccmae.Fw
open Go.RowKit
theorem SrcAt.kp {w0 w : World} {A : Option Addr} {n : Nat} {vs : List Value} (h : SrcAt w0 A n vs) (k : Kp [] w0 w) : SrcAt w A n vs := by
  cases A with
  | none => exact h
  | some a => exact CellsAt.kp h k
theorem SrcAt.takeL {α : Type} [Lay α] {w : World} {A : Option Addr} {n m : Nat} {L : List α} (h : SrcAt w A n (L.flatMap Lay.cells)) (hm : m ≤ n) : SrcAt w A m ((L.take m).flatMap Lay.cells) := by
  cases A with
  | none =>
    have h1 : n = 0 := h
    show m = 0
    omega
  | some a =>
    have h1 : CellsAt w a (L.flatMap Lay.cells) := h
    show CellsAt w a _
    rw [← flat_take]
    exact h1.take _
/-- the front of a row of ours -/
theorem rowA_take {α : Type} [Lay α] {e : Nat} {A : Option Addr} {c : Nat} {L : List α} {w : World} (h : (rowA e A c L).p w) (m : Nat) (hm : m ≤ L.length) : (rowA e A c (L.take m)).p w := by
  rcases rowA_raw h with ⟨rfl, rfl, rfl⟩ | ⟨g, zs, rfl, hr, hn⟩
  · simpa using h
  · refine raw_rowA hr _ ?_ (by rw [List.length_take]; omega)
    rw [List.length_take, Nat.min_eq_left hm, List.take_append_of_le_length (by rw [flat_len]; exact Nat.mul_le_mul_right _ hm), flat_take]
/-! ### more rules in drawn regions -/
theorem h_perm {C : Cx} {ops : Array Oper} {Q : Exit → Act → World → Prop} {R0 : List Res} {loc0 : List Blk} {n : Nat} {R R' : List Res} {s : SS} {order : Tr} (hp : R'.Perm R) (h : JH C ops Q R0 loc0 n order R' s) : JH C ops Q R0 loc0 n order R s :=
  fun bs0 bs a w hpre hsat hS0 => h bs0 bs a w hpre ⟨hsat.1, hsat.2.1, hsat.2.2.perm hp⟩ hS0
theorem Ht {C : Cx} {ops : Array Oper} {Q : Exit → Act → World → Prop} {R0 : List Res} {loc0 : List Blk} {n : Nat} {R : List Res} {s : SS} {rest : Tr} {i : Nat} {d : Option Nat} {ty : Nat} {pos : String} {aft : Array Edge} {g : Option (Nat × Bool)} {f : Operand} {args : Array Operand} {ats : Array Nat} {σ : Type} {r0 : Res}
    (fid : Nat) (caps : List (Nat × Nat)) (xs : List SV) (v : σ → Value) (F : σ → Prop) (r : σ → Res) (hoi : ops[i]? = some ⟨d, .call ⟨.value f, args, ats⟩, ty, pos, aft, g⟩) (hcall : ∀ args w, (callFunc fid args).run C.P w = .ok (.enter fid args) w) (hd : dstOK C.n d = true)
    (hg : gd ops s ⟨d, .call ⟨.value f, args, ats⟩, ty, pos, aft, g⟩ = some true) (hf : ev s f = some (.fn fid caps)) (hx : evs s args.toList = some xs)
    (hc : ∀ bs w, WS C.m C.w0 bs s.loc (r0 :: R) w → Calls C.P fid (xs.map (den bs) ++ capVals bs caps).toArray w fun e w' => ∃ y, e = .returned (v y) ∧ F y ∧ Kp r0.fp w w' ∧ (r y).p w' ∧ (r y).fp.Nodup ∧ ∀ b, b ∈ (r y).fp → b ∈ r0.fp ∨ (w.heap.size ≤ b ∧ b < w'.heap.size))
    (hS : ∀ bs0 bs y w, bs0 <+: bs → loc0.length = bs0.length → WS C.m C.w0 bs s.loc (r y :: R) w → WS C.m C.w0 bs0 loc0 R0 w)
    (hJ : ∀ y, F y → JH C ops Q R0 loc0 n rest (r y :: R) ⟨putE s.env d (.v (v y)), s.loc⟩) : JH C ops Q R0 loc0 n (.b i rest .z) (r0 :: R) s :=
  h_does (σ := { y : σ // F y }) (fun y => .v (v y.1)) (fun _ => s.loc) (fun y => r y.1 :: R) hoi hd hg
    (d_call (σ := { y : σ // F y }) fid caps xs (fun y => .v (v y.1)) (fun _ => s.loc) (fun y => r y.1 :: R) hcall hf hx fun bs w hS => (hc bs w hS).mono fun _ _ ⟨y, h1, h2, h3, h4, h5, h6⟩ => ⟨⟨y, h2⟩, h1, hS.turn h3 _ h4 h5 h6⟩) (fun bs0 bs y w => hS bs0 bs y.1 w) fun y => hJ y.1 y.2
end Go.Proofs.Ytececkgjacccmae.Fw
namespace Go.Proofs.Ytececkgjacccmae.Fw
open Go.RowKit
theorem l_appendN {α : Type} [Lay α] {C : Cx} {R' : List Res} {s : SS} {ops : Array Oper} {Q : Exit → Act → World → Prop} {rest : List Oper} {d : Option Nat} {ty : Nat} {pos : String} {aft : Array Edge} {X1 X2 : Operand} {t : Nat} (e bytes : Nat)
    (A : Option Addr) (c : Nat) (L : List α) (n : Nat) (hn : L.length = n) (x2 : SV) (L2 : List α) (ht : C.P.underlying t = some (.slice e)) (hi : infoB C.P e (Lay.size α) bytes = true) (hd : dstOK C.n d = true)
    (h1 : ev s X1 = some (.v (.slice A n c))) (h2 : ev s X2 = some x2) (hsrc : ∀ bs w, WS C.m C.w0 bs s.loc (rowA e A c L :: R') w → ∃ A2 c2, den bs x2 = .slice A2 L2.length c2 ∧ SrcAt w A2 L2.length (L2.flatMap Lay.cells))
    (h63 : L.length + L2.length ≤ 9223372036854775807) (hb : (L.length + L2.length) * bytes ≤ 140737488355328)
    (hJ : ∀ A' c', JL C ops Q (rowA e A' c' (L ++ L2) :: R') ⟨putE s.env d (.v (.slice A' (L ++ L2).length c')), s.loc⟩ rest) :
    JL C ops Q (rowA e A c L :: R') s (⟨d, .call ⟨.builtin .append, #[X1, X2], #[t, t]⟩, ty, pos, aft, none⟩ :: rest) := by
  subst hn
  exact La e bytes A c L x2 L2 ht hi hd h1 h2 hsrc h63 hb hJ
end Go.Proofs.Ytececkgjacccmae.Fw
namespace Go.Proofs.Ytececkgjacccmae.Fw
open Go.RowKit
theorem rowA_src {α : Type} [Lay α] {e : Nat} {A : Option Addr} {c : Nat} {L : List α} {w : World} (h : (rowA e A c L).p w) : SrcAt w A L.length (L.flatMap Lay.cells) := by
  rcases rowA_raw h with ⟨rfl, rfl, rfl⟩ | ⟨g, zs, rfl, hr, hn⟩
  · exact rfl
  · intro j v hj
    rw [addr_at]
    simp only [World.cell?, hr.1]
    have : (L.flatMap Lay.cells ++ zs)[j]? = some v := by rw [List.getElem?_append_left (List.getElem?_eq_some_iff.1 hj).1]; exact hj
    simpa using this
end Go.Proofs.Ytececkgjacccmae.Fw

namespace Go.Proofs.Ytececkgjacccmae.Fw
open Go.RowKit
/-! ### a row of ours as a raw block -/
/-! ### 'copy(d, s)' onto a raw block of ours -/
/-! ### 'append(s[:i], make(S, k)...)' that grows -/
/-! ### a function without a body, that looks at the world -/
end Go.Proofs.Ytececkgjacccmae.Fw
namespace Go.Proofs.Ytececkgjacccmae.Fw
open Go.RowKit
/-! ### stores into rows of ours, in a region that draws -/
end Go.Proofs.Ytececkgjacccmae.Fw

namespace Go.Proofs.Ytececkgjacccmae.Fw
open Go.RowKit
/-! ### calls in regions that draw: blocks turned, and something new besides -/
theorem h_call {C : Cx} {ops : Array Oper} {Q : Exit → Act → World → Prop} {R0 : List Res} {loc0 : List Blk} {n : Nat} {R : List Res} {s : SS} {rest : Tr} {i : Nat} {d : Option Nat} {ty : Nat} {pos : String} {aft : Array Edge} {g : Option (Nat × Bool)} {f : Operand} {args : Array Operand} {ats : Array Nat} {σ : Type}
    (fid : Nat) (caps : List (Nat × Nat)) (xs : List SV) (val : σ → SV) (loc' : σ → List Blk) (R' : σ → List Res) (hoi : ops[i]? = some ⟨d, .call ⟨.value f, args, ats⟩, ty, pos, aft, g⟩) (hcall : ∀ args w, (callFunc fid args).run C.P w = .ok (.enter fid args) w) (hd : dstOK C.n d = true)
    (hg : gd ops s ⟨d, .call ⟨.value f, args, ats⟩, ty, pos, aft, g⟩ = some true) (hf : ev s f = some (.fn fid caps)) (hx : evs s args.toList = some xs)
    (hc : ∀ bs w, WS C.m C.w0 bs s.loc R w → Calls C.P fid (xs.map (den bs) ++ capVals bs caps).toArray w fun e w' => ∃ y, e = .returned (den bs (val y)) ∧ WS C.m C.w0 bs (loc' y) (R' y) w')
    (hS : ∀ bs0 bs y w, bs0 <+: bs → loc0.length = bs0.length → WS C.m C.w0 bs (loc' y) (R' y) w → WS C.m C.w0 bs0 loc0 R0 w)
    (hJ : ∀ y, JH C ops Q R0 loc0 n rest (R' y) ⟨putE s.env d (val y), loc' y⟩) : JH C ops Q R0 loc0 n (.b i rest .z) R s :=
  h_does val loc' R' hoi hd hg (d_call fid caps xs val loc' R' hcall hf hx hc) hS hJ
theorem Hb {C : Cx} {ops : Array Oper} {Q : Exit → Act → World → Prop} {R0 : List Res} {loc0 : List Blk} {n : Nat} {R : List Res} {s : SS} {rest : Tr} {j : Nat} {d : Option Nat} {ty : Nat} {pos : String} {aft : Array Edge} {g : Option (Nat × Bool)} {f : Operand} {args : Array Operand} {ats : Array Nat} {σ : Type}
    (fid : Nat) (caps : List (Nat × Nat)) (xs : List SV) (i : Nat) (b : Blk) (v : σ → Value) (cs : σ → List SV) (F : σ → Prop) (hoi : ops[j]? = some ⟨d, .call ⟨.value f, args, ats⟩, ty, pos, aft, g⟩) (hb : s.loc[i]? = some b) (hne : b.cs ≠ []) (hcall : ∀ args w, (callFunc fid args).run C.P w = .ok (.enter fid args) w) (hd : dstOK C.n d = true)
    (hg : gd ops s ⟨d, .call ⟨.value f, args, ats⟩, ty, pos, aft, g⟩ = some true) (hf : ev s f = some (.fn fid caps)) (hx : evs s args.toList = some xs)
    (hc : ∀ bs w, WS C.m C.w0 bs s.loc R w → w.heap[bs.getD i 0]? = some (.cells (b.cs.map (den bs)).toArray b.ty (0, 0)) → Calls C.P fid (xs.map (den bs) ++ capVals bs caps).toArray w fun e w' => ∃ y, e = .returned (v y) ∧ F y ∧ Kp [bs.getD i 0] w w' ∧ w'.heap[bs.getD i 0]? = some (.cells ((cs y).map (den bs)).toArray b.ty (0, 0)))
    (hS : ∀ bs0 bs y w, bs0 <+: bs → loc0.length = bs0.length → WS C.m C.w0 bs (s.loc.set i ⟨b.ty, cs y⟩) R w → WS C.m C.w0 bs0 loc0 R0 w)
    (hJ : ∀ y, F y → JH C ops Q R0 loc0 n rest R ⟨putE s.env d (.v (v y)), s.loc.set i ⟨b.ty, cs y⟩⟩) : JH C ops Q R0 loc0 n (.b j rest .z) R s :=
  h_call (σ := { y : σ // F y }) fid caps xs (fun y => .v (v y.1)) (fun y => s.loc.set i ⟨b.ty, cs y.1⟩) (fun _ => R) hoi hcall hd hg hf hx
    (fun bs w hS => (hc bs w hS (hS.loc i b hb hne)).mono fun _ _ ⟨y, h1, h2, h3, h4⟩ => ⟨⟨y, h2⟩, h1, hS.blk i b hb _ h3 h4⟩) (fun bs0 bs y w => hS bs0 bs y.1 w) fun y => hJ y.1 y.2
/-- what a call that turns the fact at the head, and hands back something new, gives -/
def TurnedN (r0 : Res) (w w' : World) (r rn : Res) : Prop := Turned r0 w w' r ∧ rn.p w' ∧ rn.fp.Nodup ∧ (∀ b, b ∈ rn.fp → w.heap.size ≤ b ∧ b < w'.heap.size) ∧ ∀ b, b ∈ rn.fp → b ∉ r.fp
theorem WS.turnN {m : List Nat} {w0 : World} {bs : List Nat} {loc : List Blk} {R : List Res} {w w' : World} {r0 r rn : Res} (hS : WS m w0 bs loc (r0 :: R) w) (h : TurnedN r0 w w' r rn) : WS m w0 bs loc (rn :: r :: R) w' := by
  obtain ⟨h3, h4, h5, h6, h7⟩ := h
  have hS' := hS.turn h3.1 _ h3.2.1 h3.2.2.1 h3.2.2.2
  refine hS'.new _ h4 h5 fun b hb => ⟨.inl (Nat.le_trans hS.kp.size (h6 b hb).1), (h6 b hb).2, fun hm => ?_⟩
  have h8 := (h6 b hb).1
  rcases List.mem_append.1 hm with hm | hm
  · have := (hS.lo b (List.mem_append_left _ hm)).2; omega
  · rw [List.flatMap_cons] at hm
    rcases List.mem_append.1 hm with hm | hm
    · exact h7 b hb hm
    · have := (hS.lo b (List.mem_append_right _ (by rw [List.flatMap_cons]; exact List.mem_append_right _ hm))).2; omega
theorem h_turnM {C : Cx} {ops : Array Oper} {Q : Exit → Act → World → Prop} {R0 : List Res} {loc0 : List Blk} {n : Nat} {R : List Res} {s : SS} {rest : Tr} {j : Nat} {d : Option Nat} {ty : Nat} {pos : String} {aft : Array Edge} {g : Option (Nat × Bool)} {f : Operand} {args : Array Operand} {ats : Array Nat} {σ : Type} {r0 : Res}
    (fid : Nat) (caps : List (Nat × Nat)) (xs : List SV) (v : σ → Value) (F : σ → Prop) (r rn : σ → Res) (hoi : ops[j]? = some ⟨d, .call ⟨.value f, args, ats⟩, ty, pos, aft, g⟩) (hcall : ∀ args w, (callFunc fid args).run C.P w = .ok (.enter fid args) w) (hd : dstOK C.n d = true)
    (hg : gd ops s ⟨d, .call ⟨.value f, args, ats⟩, ty, pos, aft, g⟩ = some true) (hf : ev s f = some (.fn fid caps)) (hx : evs s args.toList = some xs)
    (hc : ∀ bs w, WS C.m C.w0 bs s.loc (r0 :: R) w → Calls C.P fid (xs.map (den bs) ++ capVals bs caps).toArray w fun e w' => ∃ y, e = .returned (v y) ∧ F y ∧ TurnedN r0 w w' (r y) (rn y))
    (hS : ∀ bs0 bs y w, bs0 <+: bs → loc0.length = bs0.length → WS C.m C.w0 bs s.loc (rn y :: r y :: R) w → WS C.m C.w0 bs0 loc0 R0 w)
    (hJ : ∀ y, F y → JH C ops Q R0 loc0 n rest (rn y :: r y :: R) ⟨putE s.env d (.v (v y)), s.loc⟩) : JH C ops Q R0 loc0 n (.b j rest .z) (r0 :: R) s :=
  h_call (σ := { y : σ // F y }) fid caps xs (fun y => .v (v y.1)) (fun _ => s.loc) (fun y => rn y.1 :: r y.1 :: R) hoi hcall hd hg hf hx
    (fun bs w hS => (hc bs w hS).mono fun _ w' ⟨y, h1, h2, h3⟩ => ⟨⟨y, h2⟩, h1, hS.turnN h3⟩) (fun bs0 bs y w => hS bs0 bs y.1 w) fun y => hJ y.1 y.2
/-- what such a call gives, out of what is known at its end: the fact that is turned first -/
theorem WS.turnedN {w0 : World} {bs : List Nat} {loc : List Blk} {Rs : List Res} {w : World} {r0 r : Res} (h : WS r0.fp w0 bs loc (r :: Rs) w) (hf : ∀ b, b ∈ r0.fp → b ∈ r.fp) : TurnedN r0 w0 w r (allR Rs) := by
  have hnd := (List.nodup_append.1 h.nd).2.1
  rw [List.flatMap_cons] at hnd
  refine ⟨h.turned, fun q hq => h.res q (.tail _ hq), (List.nodup_append.1 hnd).2.1, fun b hb => ?_, fun b hb hr => (List.nodup_append.1 hnd).2.2 b hr b hb rfl⟩
  have h1 := h.lo b (List.mem_append_right _ (by rw [List.flatMap_cons]; exact List.mem_append_right _ hb))
  refine ⟨h1.1.resolve_right fun hm => (List.nodup_append.1 hnd).2.2 b (hf b hm) b hb rfl, h1.2⟩
theorem TurnedN.as {r0 r rn rn' : Res} {w w' : World} (h : TurnedN r0 w w' r rn) (hp : rn.p w' → rn'.p w') (hf : rn'.fp = rn.fp) : TurnedN r0 w w' r rn' := by
  obtain ⟨h1, h2, h3, h4, h5⟩ := h
  exact ⟨h1, hp h2, by rw [hf]; exact h3, fun b hb => h4 b (by rw [← hf]; exact hb), fun b hb => h5 b (by rw [← hf]; exact hb)⟩
theorem allR_one (r : Res) (w : World) (h : (allR [r]).p w) : r.p w := h _ (.head _)
theorem allR_one_fp (r : Res) : r.fp = (allR [r]).fp := by simp [allR]
end Go.Proofs.Ytececkgjacccmae.Fw

