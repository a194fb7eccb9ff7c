/-
  What the functions compute, as plain functions: locks, sessions, searches, clients, logs.
  Conditions: none beyond those that each theorem states.
-/
import Derived.Lib.Bytealg
import Derived.Test.YtececkgjacccmacMb
import Derived.Test.YtececkgjacccmacFd
set_option linter.unusedVariables false
set_option linter.unusedSimpArgs false
namespace Go.Proofs.Ytececkgjacccmac.Fw
open Go.RowKit
/-! ### locks that may be -/
def allTo (p : Nat → Bool) : Nat → Bool
  | 0 => true
  | k + 1 => allTo p k && p k
theorem allTo_bad {p : Nat → Bool} {j : Nat} (h : p j = false) : ∀ {n : Nat}, j < n → allTo p n = false
  | 0, hj => absurd hj (Nat.not_lt_zero _)
  | n + 1, hj => by
    simp only [allTo]
    rcases Nat.lt_succ_iff_lt_or_eq.1 hj with h1 | h1
    · rw [allTo_bad h h1]; rfl
    · subst h1; rw [h]; simp
/-- may stand at a place of the line -/
def posOk (d : DLock) (j : Nat) : Bool := inB (d.line.getD j default) 1 9 && (!decide (d.line.getD j default = d.holder) && !((d.line.take j).any fun z => decide (z = d.line.getD j default)))
def lineOk (d : DLock) : Bool := allTo (posOk d) d.line.length && (decide (d.line.length ≤ 3) && (!decide (d.holder = 0) || decide (d.line.length = 0)))
def lockF (l : List DLock) (i : Nat) : Int :=
  if mName (l.getD i default).name = false ∨ (l.getD i default).holder < 0 ∨ 9 < (l.getD i default).holder ∨ lineOk (l.getD i default) = false then 4 else
  if (l.getD i default).fence < 1 ∨ 1073741824 < (l.getD i default).fence then 2 else
  if 0 < i ∧ Op.bytesLess (l.getD (i - 1) default).name.toList (l.getD i default).name.toList = false then 14 else 0
def mLocks (l : List DLock) : Int := if 5 < l.length then 1 else firstF (lockF l) (l.length - 0) 0
theorem abs_at {s : Sl CLock} (q : Nat) : (s.xs.map CLock.abs).getD q default = (s.at q).abs := by
  unfold Sl.at
  rw [List.getD_eq_getElem?_getD, List.getD_eq_getElem?_getD, List.getElem?_map]
  cases s.xs[q]? <;> rfl
/-- a number is among the first ones -/
theorem any_none {s : Sl Int} {k : Nat} {n : Int} (hk : k ≤ s.n) (h : ∀ j, j < k → ¬ s.at j = n) : ((s.xs.take k).any fun z => decide (z = n)) = false := by
  rw [List.any_eq_false]
  intro z hz
  obtain ⟨j, hj, rfl⟩ := List.getElem_of_mem hz
  have hj1 : j < k := by rw [List.length_take] at hj; omega
  have hj2 : j < s.n := by omega
  have h1 := Sl.at_some hj2
  rw [List.getElem_take]
  rw [List.getElem?_eq_getElem (show j < s.xs.length from hj2)] at h1
  injection h1 with h1
  rw [h1]
  simpa using h j hj1
theorem any_here {s : Sl Int} {k j : Nat} {n : Int} (hk : k ≤ s.n) (hj : j < k) (h : s.at j = n) : ((s.xs.take k).any fun z => decide (z = n)) = true := by
  rw [List.any_eq_true]
  have hj2 : j < s.n := by omega
  have h1 := Sl.at_some hj2
  refine ⟨s.at j, ?_, by simpa using h⟩
  refine List.mem_iff_getElem?.2 ⟨j, ?_⟩
  rw [List.getElem?_take, if_pos hj]
  exact h1
theorem take_at {α : Type} [Inhabited α] {s : Sl α} {k j : Nat} (hj : j < k) : (⟨s.A, s.c, s.xs.take k⟩ : Sl α).at j = s.at j := by
  unfold Sl.at
  rw [List.getD_eq_getElem?_getD, List.getD_eq_getElem?_getD, List.getElem?_take, if_pos hj]
theorem take_n {α : Type} {s : Sl α} {k : Nat} (hk : k ≤ s.n) : (⟨s.A, s.c, s.xs.take k⟩ : Sl α).n = k := by
  show (s.xs.take k).length = k
  rw [List.length_take]
  exact Nat.min_eq_left hk
theorem mIdxT_none {α : Type} [Inhabited α] {s : Sl α} {k : Nat} {p : α → Bool} (hk : k ≤ s.n) (h : ∀ j, j < k → p (s.at j) = false) : mIdx p (s.xs.take k) = -1 :=
  mIdx_none (s := (⟨s.A, s.c, s.xs.take k⟩ : Sl α)) fun j hj => by
    rw [take_n hk] at hj
    rw [take_at hj]
    exact h j hj
theorem mIdxT_here {α : Type} [Inhabited α] {s : Sl α} {k i : Nat} {p : α → Bool} (hk : k ≤ s.n) (hi : i < k) (hp : p (s.at i) = true) (h : ∀ j, j < i → p (s.at j) = false) : mIdx p (s.xs.take k) = (i : Int) :=
  mIdx_here (s := (⟨s.A, s.c, s.xs.take k⟩ : Sl α)) (by rw [take_n hk]; exact hi) (by rw [take_at hi]; exact hp) fun j hj => by
    rw [take_at (by omega)]
    exact h j hj
end Go.Proofs.Ytececkgjacccmac.Fw

namespace Go.Proofs.Ytececkgjacccmac.Fw
open Go.RowKit
theorem firstF_zero {f : Nat → Int} : ∀ {n i : Nat}, firstF f n i = 0 → ∀ j, i ≤ j → j < i + n → f j = 0
  | 0, i, _, j, h1, h2 => by omega
  | n + 1, i, h, j, h1, h2 => by
    simp only [firstF] at h
    split at h
    · rename_i h0
      rcases Nat.eq_or_lt_of_le h1 with h3 | h3
      · subst h3; exact h0
      · exact firstF_zero h j h3 (by omega)
    · rename_i h0
      exact absurd h h0
theorem firstF_all {f : Nat → Int} {n : Nat} (h : firstF f (n - 0) 0 = 0) : ∀ j, j < n → f j = 0 := fun j hj => firstF_zero h j (Nat.zero_le _) (by omega)
theorem allTo_good {p : Nat → Bool} : ∀ {n : Nat}, allTo p n = true → ∀ j, j < n → p j = true
  | 0, _, j, hj => absurd hj (Nat.not_lt_zero _)
  | n + 1, h, j, hj => by
    simp only [allTo, Bool.and_eq_true] at h
    rcases Nat.lt_succ_iff_lt_or_eq.1 hj with h1 | h1
    · exact allTo_good h.1 j h1
    · subst h1; exact h.2
/-! ### sessions that may be -/
end Go.Proofs.Ytececkgjacccmac.Fw
namespace Go.Proofs.Ytececkgjacccmac.Fw
theorem lineOk_false {d : DLock} (h : allTo (posOk d) d.line.length = false ∨ 3 < d.line.length ∨ (d.holder = 0 ∧ 0 < d.line.length)) : lineOk d = false := by
  unfold lineOk
  rcases h with h | h | ⟨h1, h2⟩
  · rw [h]; rfl
  · rw [decide_eq_false (show ¬ d.line.length ≤ 3 by omega)]; simp
  · rw [decide_eq_true h1, decide_eq_false (show ¬ d.line.length = 0 by omega)]; simp
theorem lineOk_true {d : DLock} (h : allTo (posOk d) d.line.length = true) (h2 : d.line.length ≤ 3) (h3 : ¬ d.holder = 0 ∨ d.line.length = 0) : lineOk d = true := by
  unfold lineOk
  rw [h, decide_eq_true h2]
  rcases h3 with h3 | h3
  · rw [decide_eq_false h3]; simp
  · rw [decide_eq_true h3]; simp
end Go.Proofs.Ytececkgjacccmac.Fw

namespace Go.Proofs.Ytececkgjacccmac.Fw
open Go.RowKit
/-! ### the search that halves -/
/-- the first one, of a list -/
theorem mIdxL_none {α : Type} [Inhabited α] {L : List α} {p : α → Bool} (h : ∀ j, j < L.length → p (L.getD j default) = false) : mIdx p L = -1 := mIdx_none (s := (⟨none, 0, L⟩ : Sl α)) h
theorem mIdxL_here {α : Type} [Inhabited α] {L : List α} {p : α → Bool} {i : Nat} (hi : i < L.length) (hp : p (L.getD i default) = true) (h : ∀ j, j < i → p (L.getD j default) = false) : mIdx p L = (i : Int) := mIdx_here (s := (⟨none, 0, L⟩ : Sl α)) hi hp h
theorem mIdx_cases {α : Type} [Inhabited α] (p : α → Bool) (L : List α) : (mIdx p L = -1 ∧ ∀ j, j < L.length → p (L.getD j default) = false) ∨ ∃ i, i < L.length ∧ mIdx p L = (i : Int) ∧ p (L.getD i default) = true ∧ ∀ j, j < i → p (L.getD j default) = false := by
  by_cases h : ∃ i, i < L.length ∧ p (L.getD i default) = true
  · right
    have key : ∀ n, (∃ i, i < n ∧ i < L.length ∧ p (L.getD i default) = true) → ∃ i, i < L.length ∧ p (L.getD i default) = true ∧ ∀ j, j < i → p (L.getD j default) = false := by
      intro n
      induction n with
      | zero => rintro ⟨i, h1, _⟩; omega
      | succ n ih =>
        rintro ⟨i, h1, h2, h3⟩
        by_cases h4 : ∃ i, i < n ∧ i < L.length ∧ p (L.getD i default) = true
        · exact ih h4
        · refine ⟨i, h2, h3, fun j hj => ?_⟩
          cases hp : p (L.getD j default) with
          | false => rfl
          | true => exact absurd ⟨j, by omega, by omega, hp⟩ h4
    obtain ⟨i, h1, h2⟩ := h
    obtain ⟨k, h3, h4, h5⟩ := key (i + 1) ⟨i, by omega, h1, h2⟩
    exact ⟨k, h3, mIdxL_here h3 h4 h5, h4, h5⟩
  · left
    have h2 : ∀ j, j < L.length → p (L.getD j default) = false := fun j hj => by
      cases hp : p (L.getD j default) with
      | false => rfl
      | true => exact absurd ⟨j, hj, hp⟩ h
    exact ⟨mIdxL_none h2, h2⟩
theorem mIdx_bd {α : Type} [Inhabited α] (p : α → Bool) (L : List α) : -1 ≤ mIdx p L ∧ mIdx p L < L.length := by
  rcases mIdx_cases p L with ⟨h, _⟩ | ⟨i, h1, h2, _⟩
  · rw [h]; omega
  · rw [h2]; omega
/-! ### names in order -/
theorem mLocks_bd {l : List DLock} (h : mLocks l = 0) : l.length ≤ 5 ∧ ∀ j, j < l.length → lockF l j = 0 := by
  unfold mLocks at h
  split at h
  · cases h
  exact ⟨by omega, firstF_all h⟩
theorem lockF_bd {l : List DLock} {j : Nat} (h : lockF l j = 0) : mName (l.getD j default).name = true ∧ 0 ≤ (l.getD j default).holder ∧ (l.getD j default).holder ≤ 9 ∧ lineOk (l.getD j default) = true ∧ 1 ≤ (l.getD j default).fence ∧ (l.getD j default).fence ≤ 1073741824 ∧ (0 < j → Op.bytesLess (l.getD (j - 1) default).name.toList (l.getD j default).name.toList = true) := by
  unfold lockF at h
  split at h
  · cases h
  rename_i h1
  split at h
  · cases h
  split at h
  · cases h
  rename_i h4
  refine ⟨?_, by omega, by omega, ?_, by omega, by omega, fun hj => ?_⟩
  · cases hb : mName (l.getD j default).name with
    | true => rfl
    | false => exact absurd (.inl hb) h1
  · cases hb : lineOk (l.getD j default) with
    | true => rfl
    | false => exact absurd (.inr (.inr (.inr hb))) h1
  · cases hb : Op.bytesLess (l.getD (j - 1) default).name.toList (l.getD j default).name.toList with
    | true => rfl
    | false => exact absurd ⟨hj, hb⟩ h4
end Go.Proofs.Ytececkgjacccmac.Fw

namespace Go.Proofs.Ytececkgjacccmac.Fw
open Go.RowKit
/-! ### what is deleted -/
theorem delF_none {α : Type} [Inhabited α] {p : α → Bool} {L : List α} (h : mIdx p L = -1) : L.filter (fun x => !p x) = L := by
  rcases mIdx_cases p L with ⟨_, h2⟩ | ⟨i, _, h2, _⟩
  · rw [List.filter_eq_self]
    intro x hx
    obtain ⟨j, hj, rfl⟩ := List.getElem_of_mem hx
    have := h2 j hj
    rw [List.getD_eq_getElem?_getD, List.getElem?_eq_getElem hj] at this
    simpa using this
  · omega
theorem filter_take {α : Type} [Inhabited α] {p : α → Bool} {L : List α} {i : Nat} (hi : i ≤ L.length) (h : ∀ j, j < i → p (L.getD j default) = false) : (L.take i).filter (fun x => !p x) = L.take i := by
  rw [List.filter_eq_self]
  intro x hx
  obtain ⟨j, hj, rfl⟩ := List.getElem_of_mem hx
  have hj' : j < i := by rw [List.length_take] at hj; omega
  have h1 := h j hj'
  rw [List.getD_eq_getElem?_getD, List.getElem?_eq_getElem (by omega)] at h1
  rw [List.getElem_take]
  simpa using h1
theorem take_snocL {α : Type} [Inhabited α] {L : List α} {i : Nat} (hi : i < L.length) : L.take (i + 1) = L.take i ++ [L.getD i default] := by
  rw [List.take_add_one, getD_some hi]; rfl
theorem filt1 {α : Type} {p : α → Bool} {x : α} (h : p x = true) : [x].filter (fun x => !p x) = [] := by rw [List.filter_cons, h]; rfl
theorem filt0 {α : Type} {p : α → Bool} {x : α} (h : p x = false) : [x].filter (fun x => !p x) = [x] := by rw [List.filter_cons, h]; rfl
end Go.Proofs.Ytececkgjacccmac.Fw

namespace Go.Proofs.Ytececkgjacccmac.Fw
open Go.RowKit
/-! ### what is small because it may be -/
theorem small_locks {s : Sl CLock} (h : mLocks (s.xs.map CLock.abs) = 0) : Rds.small s := by
  obtain ⟨h3, h4⟩ := mLocks_bd h
  have hl : (s.xs.map CLock.abs).length = s.n := by simp
  refine ⟨by omega, fun i hi => ?_⟩
  have h5 := (lockF_bd (h4 i (by omega))).2.2.2.1
  rw [abs_at] at h5
  simp only [lineOk, Bool.and_eq_true, decide_eq_true_eq] at h5
  have h7 : (s.at i).abs.line.length = (s.at i).line.n := rfl
  exact ⟨by omega, fun _ _ => trivial⟩
/-! ### locks and sessions of our own -/
/-! ### sessions that are fresh -/
/-! ### a pair's value -/
end Go.Proofs.Ytececkgjacccmac.Fw
namespace Go.Proofs.Ytececkgjacccmac.Fw
end Go.Proofs.Ytececkgjacccmac.Fw

namespace Go.Proofs.Ytececkgjacccmac.Fw
open Go.RowKit
/-! ### commands out of bytes -/
/-! ### logs -/
/-! ### clients -/
/-! ### who has a lock -/
theorem getD_map {α β : Type} [Inhabited α] [Inhabited β] (f : α → β) (hf : f default = default) (L : List α) (i : Nat) : (L.map f).getD i default = f (L.getD i default) := by
  rw [List.getD_eq_getElem?_getD, List.getD_eq_getElem?_getD, List.getElem?_map]
  cases L[i]? with
  | none => exact hf.symm
  | some x => rfl
end Go.Proofs.Ytececkgjacccmac.Fw
namespace Go.Proofs.Ytececkgjacccmac.Fw
end Go.Proofs.Ytececkgjacccmac.Fw

namespace Go.Proofs.Ytececkgjacccmac.Fw
open Go.RowKit
/-! ### mails to clients -/
/-- what is there once, taken out -/
theorem filter_one {α : Type} [Inhabited α] {p : α → Bool} {L : List α} {k : Nat} (hk : k < L.length) (hp : p (L.getD k default) = true) (h : ∀ j, j < L.length → ¬ j = k → p (L.getD j default) = false) : L.take k ++ L.drop (k + 1) = L.filter fun z => !p z := by
  have e : L = L.take k ++ (L.getD k default :: L.drop (k + 1)) := by
    have h1 : L.drop k = L.getD k default :: L.drop (k + 1) := by
      rw [List.drop_eq_getElem_cons hk, List.getD_eq_getElem?_getD, List.getElem?_eq_getElem hk]; rfl
    rw [← h1, List.take_append_drop]
  have h2 : (L.take k).filter (fun z => !p z) = L.take k := filter_take (by omega) fun j hj => h j (by omega) (by omega)
  have h3 : (L.drop (k + 1)).filter (fun z => !p z) = L.drop (k + 1) := by
    rw [List.filter_eq_self]
    intro z hz
    obtain ⟨j, hj, rfl⟩ := List.getElem_of_mem hz
    rw [List.length_drop] at hj
    have h4 := h (k + 1 + j) (by omega) (by omega)
    rw [List.getD_eq_getElem?_getD, List.getElem?_eq_getElem (by omega)] at h4
    rw [List.getElem_drop]
    simpa using h4
  have h5 : (L.take k ++ (L.getD k default :: L.drop (k + 1))).filter (fun z => !p z) = L.take k ++ L.drop (k + 1) := by
    rw [List.filter_append, h2, List.filter_cons, hp, h3]; rfl
  rw [← e] at h5
  exact h5.symm
/-! ### a session that is left -/
end Go.Proofs.Ytececkgjacccmac.Fw
namespace Go.Proofs.Ytececkgjacccmac.Fw
end Go.Proofs.Ytececkgjacccmac.Fw

namespace Go.Proofs.Ytececkgjacccmac.Fw
open Go.RowKit
/-! ### a lock that is given up -/
def mPass (d : DLock) : DLock := if 0 < d.line.length ∧ d.fence < 1073741824 then ⟨d.name, d.line.getD 0 default, d.fence + 1, d.line.drop 1⟩ else ⟨d.name, 0, d.fence, []⟩
/-- one is not in the line any more -/
def unline (l : List Int) (who : Int) : List Int := l.filter fun z => !decide (z = who)
def goneF (who : Int) (d : DLock) : DLock := if d.holder = who then mPass ⟨d.name, d.holder, d.fence, unline d.line who⟩ else ⟨d.name, d.holder, d.fence, unline d.line who⟩
def mGone (l : List DLock) (who : Int) : List DLock × Int := if ¬ mLocks l = 0 then ([], mLocks l) else if who < 1 ∨ 9 < who then ([], 2) else (l.map (goneF who), 0)
/-- a line that may be: nobody stands twice -/
theorem line_one {d : DLock} (h : lineOk d = true) {who : Int} {k : Nat} (hk : mIdx (fun z => decide (z = who)) d.line = (k : Int)) : d.line.take k ++ d.line.drop (k + 1) = unline d.line who := by
  simp only [lineOk, Bool.and_eq_true] at h
  have hpos := allTo_good h.1
  rcases mIdx_cases (fun z => decide (z = who)) d.line with ⟨h1, _⟩ | ⟨i, h1, h2, h3, h4⟩
  · omega
  · have : i = k := by omega
    subst this
    refine filter_one (p := fun z => decide (z = who)) h1 h3 fun j hj hji => ?_
    rcases Nat.lt_or_gt_of_ne hji with h5 | h5
    · exact h4 j h5
    · refine decide_eq_false fun e => ?_
      have h6 := hpos j hj
      simp only [posOk, Bool.and_eq_true, Bool.not_eq_true', List.any_eq_false, decide_eq_true_eq] at h6
      refine h6.2.2 (d.line.getD i default) ?_ ((of_decide_eq_true h3).trans e.symm)
      rw [List.getD_eq_getElem?_getD, List.getElem?_eq_getElem h1]
      refine List.mem_iff_getElem?.2 ⟨i, ?_⟩
      rw [List.getElem?_take, if_pos h5, List.getElem?_eq_getElem h1]
      rfl
theorem line_none {l : List Int} {who : Int} (h : mIdx (fun z => decide (z = who)) l < 0) : unline l who = l := by
  rcases mIdx_cases (fun z => decide (z = who)) l with ⟨h1, _⟩ | ⟨i, _, h2, _⟩
  · exact delF_none h1
  · omega
def passC (x : CLock) : CLock := if 0 < x.line.n ∧ x.fence < 1073741824 then ⟨x.name, x.line.at 0, x.fence + 1, ⟨offA x.line.A x.line.c 1 1, x.line.c - 1, x.line.xs.drop 1⟩⟩ else ⟨x.name, 0, x.fence, Sl.nil⟩
theorem passC_abs (x : CLock) : (passC x).abs = mPass x.abs := by
  unfold passC mPass
  have h1 : x.abs.line = x.line.xs := rfl
  have h2 : x.abs.fence = x.fence := rfl
  rw [h1, h2]
  split <;> rfl
theorem CellsAt.off {w : World} {a : Addr} {vs : List Value} (h : CellsAt w a vs) (o : Nat) : CellsAt w (a.add o) (vs.drop o) := by
  have := h.part o vs.length
  rwa [List.take_of_length_le (by rw [List.length_drop]; omega)] at this
theorem Sl.rd.dropI {B : Nat → Prop} {w : World} {s : Sl Int} (h : s.rd B w) (hn : 0 < s.n) : Sl.rd B w (⟨offA s.A s.c 1 1, s.c - 1, s.xs.drop 1⟩ : Sl Int) := by
  have hl : (s.xs.drop 1).length = s.n - 1 := List.length_drop ..
  refine ⟨by show (s.xs.drop 1).length ≤ s.c - 1; have := h.1; omega, by show s.c - 1 ≤ maxLen; have := h.2.1; omega, fun i x hx => ?_⟩
  rw [List.getElem?_drop] at hx
  obtain ⟨⟨a, ha, hB, hc⟩, _⟩ := h.2.2 (1 + i) x hx
  have hi : 1 + i < s.n := (List.getElem?_eq_some_iff.1 hx).1
  have hne : ¬ s.c = 1 := by have := h.1; omega
  refine ⟨⟨a.add 1, ?_, by rw [add_block]; exact hB, ?_⟩, trivial⟩
  · show offA s.A s.c 1 1 = _
    unfold offA
    rw [if_neg hne, ha]
    rfl
  · rw [addr_add]
    have e : (1 + i) * Lay.size Int = 1 + i * Lay.size Int := by show (1 + i) * 1 = 1 + i * 1; omega
    rw [← e]
    exact hc
end Go.Proofs.Ytececkgjacccmac.Fw

namespace Go.Proofs.Ytececkgjacccmac.Fw
open Go.RowKit
end Go.Proofs.Ytececkgjacccmac.Fw
namespace Go.Proofs.Ytececkgjacccmac.Fw
end Go.Proofs.Ytececkgjacccmac.Fw
namespace Go.Proofs.Ytececkgjacccmac.Fw
end Go.Proofs.Ytececkgjacccmac.Fw
namespace Go.Proofs.Ytececkgjacccmac.Fw
theorem Sl.rd.drop {α : Type} [Lay α] {B : Nat → Prop} {w : World} {s : Sl α} (h : s.rd B w) (k : Nat) (hk : k ≤ s.n) : Sl.rd B w (⟨offA s.A s.c k (Lay.size α), s.c - k, s.xs.drop k⟩ : Sl α) := by
  have hl : (s.xs.drop k).length = s.n - k := List.length_drop ..
  refine ⟨by show (s.xs.drop k).length ≤ s.c - k; have := h.1; omega, by show s.c - k ≤ maxLen; have := h.2.1; omega, fun i x hx => ?_⟩
  rw [List.getElem?_drop] at hx
  obtain ⟨⟨a, ha, hB, hc⟩, h2⟩ := h.2.2 (k + i) x hx
  have hi : k + i < s.n := (List.getElem?_eq_some_iff.1 hx).1
  have hne : ¬ s.c = k := by have := h.1; omega
  refine ⟨⟨a.add (k * Lay.size α), ?_, by rw [add_block]; exact hB, ?_⟩, h2⟩
  · show offA s.A s.c k (Lay.size α) = _
    unfold offA
    rw [if_neg hne, ha]
    rfl
  · rw [addr_add, ← Nat.add_mul]
    exact hc
end Go.Proofs.Ytececkgjacccmac.Fw
namespace Go.Proofs.Ytececkgjacccmac.Fw
end Go.Proofs.Ytececkgjacccmac.Fw

namespace Go.Proofs.Ytececkgjacccmac.Fw
open Go.RowKit
/-! ### states as bytes -/
end Go.Proofs.Ytececkgjacccmac.Fw

namespace Go.Proofs.Ytececkgjacccmac.Fw
open Go.RowKit
/-! ### one laid in, ahead of the first that is greater -/
def mIns {α : Type} (p : α → Bool) (x : α) (l : List α) : List α := l.take (l.findIdx p) ++ [x] ++ l.drop (l.findIdx p)
theorem ins_more {α : Type} {p : α → Bool} {x y : α} {l : List α} (h : l.any p = true) : mIns p x (l ++ [y]) = mIns p x l ++ [y] := by
  have hlt : l.findIdx p < l.length := List.findIdx_lt_length.2 (List.any_eq_true.1 h)
  unfold mIns
  have e : (l ++ [y]).findIdx p = l.findIdx p := by rw [List.findIdx_append, if_pos hlt]
  rw [e, List.take_append_of_le_length (Nat.le_of_lt hlt), List.drop_append_of_le_length (Nat.le_of_lt hlt)]
  simp
theorem ins_len {α : Type} (p : α → Bool) (x : α) (l : List α) : (mIns p x l).length = l.length + 1 := by
  have := List.findIdx_le_length (p := p) (xs := l)
  unfold mIns
  simp only [List.length_append, List.length_take, List.length_drop, List.length_cons, List.length_nil]
  omega
/-! ### sessions: a client joins, asks, is answered -/
/-! ### values by their names -/
/-! ### locks: taken, given up -/
end Go.Proofs.Ytececkgjacccmac.Fw

namespace Go.Proofs.Ytececkgjacccmac.Fw
open Go.RowKit
/-- in the middle of laying one in, ahead of the first that is greater -/
structure InsI {α : Type} (p : α → Bool) (x : α) (S : List α) (k : Nat) (b : Bool) (L : List α) : Prop where
  le : k ≤ S.length
  any : (S.take k).any p = b
  eq : L = if b = true then mIns p x (S.take k) else S.take k
theorem InsI.start {α : Type} (p : α → Bool) (x : α) (S : List α) : InsI p x S 0 false [] := ⟨Nat.zero_le _, rfl, rfl⟩
theorem InsI.more {α : Type} [Inhabited α] {p : α → Bool} {x : α} {S L : List α} {k : Nat} {b : Bool} (h : InsI p x S k b L) (hb : b = true) (hk : k < S.length) : InsI p x S (k + 1) true (L ++ [S.getD k default]) := by
  subst hb
  refine ⟨hk, ?_, ?_⟩
  · rw [take_snocL hk, List.any_append, h.any]; rfl
  · have h1 := h.eq
    rw [if_pos rfl] at h1 ⊢
    rw [take_snocL hk, ins_more h.any, h1]
theorem InsI.skip {α : Type} [Inhabited α] {p : α → Bool} {x : α} {S L : List α} {k : Nat} {b : Bool} (h : InsI p x S k b L) (hb : b = false) (hk : k < S.length) (hy : p (S.getD k default) = false) : InsI p x S (k + 1) false (L ++ [S.getD k default]) := by
  subst hb
  refine ⟨hk, ?_, ?_⟩
  · rw [take_snocL hk, List.any_append, h.any, List.any_cons, hy]; rfl
  · have h1 := h.eq
    rw [if_neg (by simp)] at h1 ⊢
    rw [take_snocL hk, h1]
theorem InsI.len {α : Type} {p : α → Bool} {x : α} {S L : List α} {k : Nat} {b : Bool} (h : InsI p x S k b L) : L.length ≤ k + 1 := by
  have h1 := h.eq
  have h2 := h.le
  split at h1
  · rw [h1, ins_len, List.length_take]; omega
  · rw [h1, List.length_take]; omega
theorem mem_set {α : Type} {L : List α} {i : Nat} {x y : α} (h : y ∈ L.set i x) : y = x ∨ y ∈ L := (List.mem_or_eq_of_mem_set h).symm
end Go.Proofs.Ytececkgjacccmac.Fw

namespace Go.Proofs.Ytececkgjacccmac.Fw
open Go.RowKit
/-! ### bytes as states: 'q': what is left, and what went wrong first -/
end Go.Proofs.Ytececkgjacccmac.Fw

namespace Go.Proofs.Ytececkgjacccmac.Fw
open Go.RowKit
/-! ### the machine -/
end Go.Proofs.Ytececkgjacccmac.Fw

namespace Go.Proofs.Ytececkgjacccmac.Fw
open Go.RowKit
/-! ### replicas -/
end Go.Proofs.Ytececkgjacccmac.Fw

namespace Go.Proofs.Ytececkgjacccmac.Fw
open Go.RowKit
/-! ### sessions of our own, turned -/
theorem lgetD {L : List CLock} (k : Nat) : (L.map CLock.abs).getD k default = (L.getD k default).abs := getD_map CLock.abs rfl L k
end Go.Proofs.Ytececkgjacccmac.Fw
namespace Go.Proofs.Ytececkgjacccmac.Fw
open Go.RowKit
theorem own_eltL {eK : Nat} {L : List CLock} {w : World} (h : (ownL (lineR eK) L).p w) (hn : ∀ x, x ∈ L → x.name.size ≤ 9223372036854775807) {x : CLock} (hx : x ∈ L) : Rds.sub anyB w x := ⟨hn x hx, rowA_rd (h x hx) (fun _ _ => trivial) fun _ _ => trivial⟩
end Go.Proofs.Ytececkgjacccmac.Fw
namespace Go.Proofs.Ytececkgjacccmac.Fw
open Go.RowKit
/-! ### replies that are kept: the search, and one more -/
end Go.Proofs.Ytececkgjacccmac.Fw
namespace Go.Proofs.Ytececkgjacccmac.Fw
end Go.Proofs.Ytececkgjacccmac.Fw

namespace Go.Proofs.Ytececkgjacccmac.Fw
open Go.RowKit
/-! ### locks of our own, turned -/
theorem filtS_in {α : Type} [Inhabited α] {s : Sl α} {p : α → Bool} {L : List α} {i : Nat} (h : L = (s.xs.take i).filter fun z => !p z) (hi : i < s.n) (hp : p (s.at i) = false) : L ++ [s.at i] = (s.xs.take (i + 1)).filter fun z => !p z := by
  rw [← take_snoc hi, List.filter_append, ← h, filt0 (p := p) hp]
theorem filtS_out {α : Type} [Inhabited α] {s : Sl α} {p : α → Bool} {L : List α} {i : Nat} (h : L = (s.xs.take i).filter fun z => !p z) (hi : i < s.n) (hp : p (s.at i) = true) : L = (s.xs.take (i + 1)).filter fun z => !p z := by
  rw [← take_snoc hi, List.filter_append, ← h, filt1 (p := p) hp, List.append_nil]
theorem lock_all {L : List CLock} (h : mLocks (L.map CLock.abs) = 0) {k : Nat} (hk : k < L.length) : 0 ≤ (L.getD k default).holder ∧ (L.getD k default).holder ≤ 9 ∧ lineOk (L.getD k default).abs = true ∧ 1 ≤ (L.getD k default).fence ∧ (L.getD k default).fence ≤ 1073741824 ∧ (L.getD k default).line.xs.length ≤ 3 := by
  have := lockF_bd ((mLocks_bd h).2 k (by rw [List.length_map]; exact hk))
  rw [lgetD] at this
  obtain ⟨_, h2, h3, h4, h5, h6, _⟩ := this
  have h7 := h4
  simp only [lineOk, Bool.and_eq_true, decide_eq_true_eq] at h7
  exact ⟨h2, h3, h4, h5, h6, h7.2.1⟩
end Go.Proofs.Ytececkgjacccmac.Fw
namespace Go.Proofs.Ytececkgjacccmac.Fw
end Go.Proofs.Ytececkgjacccmac.Fw
namespace Go.Proofs.Ytececkgjacccmac.Fw
open Go.RowKit
theorem line_one' {d : DLock} (h : lineOk d = true) {who : Int} {i : Nat} (hk : mIdx (fun z => decide (z = who)) d.line = (i : Int)) {L : List Int} (hL : L = d.line.take i ++ d.line.drop (i + 1)) : L = unline d.line who := by rw [hL]; exact line_one h hk
end Go.Proofs.Ytececkgjacccmac.Fw

namespace Go.Proofs.Ytececkgjacccmac.Fw
open Go.RowKit
/-! ### bytes as states: the ways out -/
end Go.Proofs.Ytececkgjacccmac.Fw

namespace Go.Proofs.Ytececkgjacccmac.Fw
open Go.RowKit
/-! ### replicas: what their check says -/
end Go.Proofs.Ytececkgjacccmac.Fw

namespace Go.Proofs.Ytececkgjacccmac.Fw
open Go.RowKit
/-! ### short words for what walks say often -/
theorem Jq {C : Cx} {R : List Res} {ops : Array Oper} {Q : Exit → Act → World → Prop} {s : SS} {l : List Oper} (k : Nat) (keys : List Nat) (nl : Nat) (s' : SS) (hJ : JL C ops Q R s' (l.drop k)) (h : runP C.P C.n ops [] k l s keys nl = some (s', [], []) := by kernel_rfl) : JL C ops Q R s l := Jr k [] keys nl s' [] [] h on wn hJ
abbrev DOp.cs (x : DOp) : List SV := [vI x.kind, vS x.a, vS x.b, vI x.n]
abbrev DReply.cs (x : DReply) : List SV := [vI x.code, vI x.n, vS x.text]
abbrev CLock.cs (x : CLock) : List SV := [vS x.name, vI x.holder, vI x.fence, .v (.slice x.line.A x.line.n x.line.c)]
abbrev DPair.cs (x : DPair) : List SV := [vS x.name, vS x.value, vI x.version]
abbrev DCommand.cs (x : DCommand) : List SV := [vI x.kind, vI x.client, vI x.session, vI x.seq, vI x.acked, vI x.op.kind, vS x.op.a, vS x.op.b, vI x.op.n]
abbrev DKept.cs (x : DKept) : List SV := [vI x.seq, vI x.reply.code, vI x.reply.n, vS x.reply.text]
abbrev CSession.cs (x : CSession) : List SV := [vI x.client, vI x.id, vI x.acked, vI x.last, .v (.slice x.replies.A x.replies.n x.replies.c)]
abbrev CState.cs (x : CState) : List SV := [vI x.index, .v (.slice x.locks.A x.locks.n x.locks.c), .v (.slice x.pairs.A x.pairs.n x.pairs.c), .v (.slice x.sessions.A x.sessions.n x.sessions.c)]
abbrev CLog.cs (x : CLog) : List SV := [vI x.base, .v (.slice x.entries.A x.entries.n x.entries.c)]
abbrev CReplica.cs (x : CReplica) : List SV := [vI x.log.base, .v (.slice x.log.entries.A x.log.entries.n x.log.entries.c), vS x.snap, vI x.state.index, .v (.slice x.state.locks.A x.state.locks.n x.state.locks.c), .v (.slice x.state.pairs.A x.state.pairs.n x.state.pairs.c), .v (.slice x.state.sessions.A x.state.sessions.n x.state.sessions.c)]
abbrev DWait.cs (x : DWait) : List SV := [vI x.seq, vI x.op.kind, vS x.op.a, vS x.op.b, vI x.op.n]
abbrev CCustomer.cs (x : CCustomer) : List SV := [vI x.id, vI x.session, vI x.next, .v (.slice x.waits.A x.waits.n x.waits.c)]
abbrev DMail.cs (x : DMail) : List SV := [vI x.client, vI x.seq, vI x.reply.code, vI x.reply.n, vS x.reply.text]
abbrev DAct.cs (x : DAct) : List SV := [vI x.kind, vI x.c, vI x.r, vI x.k, vI x.op.kind, vS x.op.a, vS x.op.b, vI x.op.n]
end Go.Proofs.Ytececkgjacccmac.Fw

namespace Go.Proofs.Ytececkgjacccmac.Fw
open Go.RowKit
/-! ### replicas that take in and throw away -/
end Go.Proofs.Ytececkgjacccmac.Fw

namespace Go.Proofs.Ytececkgjacccmac.Fw
open Go.RowKit
/-! ### replicas that hear -/
end Go.Proofs.Ytececkgjacccmac.Fw

namespace Go.Proofs.Ytececkgjacccmac.Fw
open Go.RowKit
/-! ### locks of one who is gone -/
structure GoneI (who : Int) (S : List CLock) (k : Nat) (L : List CLock) : Prop where
  le : k ≤ S.length
  len : L.length = S.length
  rest : ∀ j, k ≤ j → L.getD j default = S.getD j default
  done : (L.take k).map CLock.abs = (S.take k).map fun x => goneF who x.abs
  names : ∀ x, x ∈ L → x.name.size ≤ 9223372036854775807
theorem GoneI.start {who : Int} {S : List CLock} (h : ∀ x, x ∈ S → x.name.size ≤ 9223372036854775807) : GoneI who S 0 S := ⟨Nat.zero_le _, rfl, fun _ _ => rfl, rfl, h⟩
theorem take_set_snoc {α : Type} [Inhabited α] {L : List α} {k : Nat} {x : α} (hk : k < L.length) : (L.set k x).take (k + 1) = L.take k ++ [x] := by
  rw [List.take_add_one, List.getElem?_set_self hk, List.take_set_of_le (Nat.le_refl _)]
  rfl
theorem GoneI.step {who : Int} {S : List CLock} {k : Nat} {L L' : List CLock} {x : CLock} (h : GoneI who S k L) (hk : k < S.length) (hL : L' = L.set k x) (ha : x.abs = goneF who (L.getD k default).abs) (hn : x.name = (L.getD k default).name) : GoneI who S (k + 1) L' := by
  have hkl : k < L.length := by rw [h.len]; exact hk
  subst hL
  refine ⟨hk, by rw [List.length_set, h.len], fun j hj => ?_, ?_, fun y hy => ?_⟩
  · rw [getD_set_ne (by omega), h.rest j (by omega)]
  · have e : S.take (k + 1) = S.take k ++ [S.getD k default] := by rw [List.take_add_one, getD_some hk]; rfl
    rw [take_set_snoc hkl, e, List.map_append, List.map_append, h.done, ← h.rest k (Nat.le_refl _)]
    exact congrArg (fun z => _ ++ [z]) ha
  · rcases mem_set hy with rfl | hy
    · rw [hn]; exact h.names _ (mem_of_getD hkl)
    · exact h.names _ hy
theorem GoneI.fin {who : Int} {S : List CLock} {k : Nat} {L : List CLock} (h : GoneI who S k L) (hk : S.length ≤ k) : L.map CLock.abs = (S.map CLock.abs).map (goneF who) := by
  have h1 := h.done
  rw [List.take_of_length_le (by rw [h.len]; exact hk), List.take_of_length_le hk] at h1
  rw [h1, List.map_map]; rfl
def goneR (fp : List Nat) (P : List CLock) : Res := ⟨fp, fun w => ∀ x, x ∈ P → Sl.rd (· ∈ fp) w x.line, fun h p x hx => Sl.rd.stay (p x hx) fun b hb _ => h b hb⟩
theorem goneR_step {fp fp' : List Nat} {L L' : List CLock} {k : Nat} {x : CLock} {w : World} (hk : k < L.length) (hL : L' = L.set k x) (h1 : Sl.rd (· ∈ fp') w x.line) (h2 : (goneR fp (L.take k)).p w) : (goneR (fp ++ fp') (L'.take (k + 1))).p w := fun y hy => by
  subst hL
  rw [take_set_snoc hk] at hy
  rcases List.mem_append.1 hy with hy | hy
  · exact Sl.rd.wide (h2 y hy) fun b hb => List.mem_append_left _ hb
  · rw [List.mem_singleton] at hy; subst hy; exact Sl.rd.wide h1 fun b hb => List.mem_append_right _ hb
theorem passC_rd {B : Nat → Prop} {w : World} {x : CLock} (h : Sl.rd B w x.line) : Sl.rd B w (passC x).line := by
  unfold passC
  split
  · rename_i hn; exact Sl.rd.dropI h hn.1
  · exact Sl.rd_nil _ _
theorem passC_name (x : CLock) : (passC x).name = x.name := by unfold passC; split <;> rfl
theorem mPass_name (d : DLock) : (mPass d).name = d.name := by unfold mPass; split <;> rfl
theorem gone_keep {D x : CLock} {who : Int} (hn : x.name = D.name) (hh : x.holder = D.holder) (hf : x.fence = D.fence) (hl : x.line.xs = unline D.line.xs who) (h : ¬ D.holder = who) : x.abs = goneF who D.abs := by
  unfold goneF
  rw [if_neg (show ¬ D.abs.holder = who from h)]
  show (⟨x.name, x.holder, x.fence, x.line.xs⟩ : DLock) = _
  rw [hn, hh, hf, hl]; rfl
theorem gone_pass {D x y : CLock} {who : Int} (hy : y.abs = mPass x.abs) (hn : x.name = D.name) (hh : x.holder = D.holder) (hf : x.fence = D.fence) (hl : x.line.xs = unline D.line.xs who) (h : D.holder = who) : y.abs = goneF who D.abs := by
  unfold goneF
  rw [if_pos (show D.abs.holder = who from h), hy]
  refine congrArg mPass ?_
  show (⟨x.name, x.holder, x.fence, x.line.xs⟩ : DLock) = _
  rw [hn, hh, hf, hl]; rfl
theorem own_uncons_fp {α : Type} [Inhabited α] (f : α → Res) {L : List α} {i : Nat} {D : α} (hi : i < L.length) (hD : D = L.getD i default) : ((f D).fp ++ (ownL f (L.drop (i + 1))).fp).Perm (ownL f (L.drop i)).fp := by
  subst hD
  have e : L.drop i = L.getD i default :: L.drop (i + 1) := by
    rw [List.drop_eq_getElem_cons hi, List.getD_eq_getElem?_getD, List.getElem?_eq_getElem hi]; rfl
  rw [e]
  exact List.Perm.refl _
theorem own_uncons_p {α : Type} [Inhabited α] (f : α → Res) {L : List α} {i : Nat} {D : α} (hi : i < L.length) (hD : D = L.getD i default) (w : World) (h : (ownL f (L.drop i)).p w) : (f D).p w ∧ (ownL f (L.drop (i + 1))).p w := by
  subst hD
  have e : L.drop i = L.getD i default :: L.drop (i + 1) := by
    rw [List.drop_eq_getElem_cons hi, List.getD_eq_getElem?_getD, List.getElem?_eq_getElem hi]; rfl
  rw [e] at h
  exact ⟨h _ (.head _), fun x hx => h x (.tail _ hx)⟩
theorem gone_out {who : Int} {S L : List CLock} {k : Nat} {fp : List Nat} {R : List Res} {w : World} {e : Nat} {A : Option Addr} {c : Nat} (hI : GoneI who S k L) (hk : S.length ≤ k) (hr : rowA e A c L ∈ R) (hg : goneR fp (L.take k) ∈ R) (hR : ∀ r, r ∈ R → r.p w) : Sl.rd (· ∈ (allR R).fp) w (⟨A, c, L⟩ : Sl CLock) :=
  allR_row hr (hR _ hr) fun x hx => ⟨hI.names x hx, Sl.rd.wide (hR _ hg x (by rw [List.take_of_length_le (by rw [hI.len]; exact hk)]; exact hx)) fun b hb => mem_allR hg hb⟩
theorem gone_ok {l : List DLock} {who : Int} (h : mLocks l = 0) (h1 : ¬ (who < 1 ∨ 9 < who)) : mGone l who = (l.map (goneF who), 0) := by unfold mGone; rw [if_neg (fun q => q h), if_neg h1]
theorem gone_bad {l : List DLock} {who : Int} (h : ¬ mLocks l = 0) : mGone l who = ([], mLocks l) := by unfold mGone; rw [if_pos h]
theorem gone_who {l : List DLock} {who : Int} (h : mLocks l = 0) (h1 : who < 1 ∨ 9 < who) : mGone l who = ([], 2) := by unfold mGone; rw [if_neg (fun q => q h), if_pos h1]
end Go.Proofs.Ytececkgjacccmac.Fw

