/-
  What the functions compute, as plain functions: locks, sessions, searches, clients, logs.
  Conditions: none beyond those that each theorem states.
-/
import Derived.Lib.Bytealg
import Derived.Test.YtececkgjacccmadMb
import Derived.Test.YtececkgjacccmadFd
set_option linter.unusedVariables false
set_option linter.unusedSimpArgs false
namespace Go.Proofs.Ytececkgjacccmad.Fw
open Go.RowKit
/-! ### locks that may be -/
def allTo (p : Nat → Bool) : Nat → Bool
  | 0 => true
  | k + 1 => allTo p k && p k
theorem allTo_bad {p : Nat → Bool} {j : Nat} (h : p j = false) : ∀ {n : Nat}, j < n → allTo p n = false
  | 0, hj => absurd hj (Nat.not_lt_zero _)
  | n + 1, hj => by
    simp only [allTo]
    rcases Nat.lt_succ_iff_lt_or_eq.1 hj with h1 | h1
    · rw [allTo_bad h h1]; rfl
    · subst h1; rw [h]; simp
/-- may stand at a place of the line -/
def posOk (d : DLock) (j : Nat) : Bool := inB (d.line.getD j default) 1 9 && (!decide (d.line.getD j default = d.holder) && !((d.line.take j).any fun z => decide (z = d.line.getD j default)))
def lineOk (d : DLock) : Bool := allTo (posOk d) d.line.length && (decide (d.line.length ≤ 3) && (!decide (d.holder = 0) || decide (d.line.length = 0)))
def lockF (l : List DLock) (i : Nat) : Int :=
  if mName (l.getD i default).name = false ∨ (l.getD i default).holder < 0 ∨ 9 < (l.getD i default).holder ∨ lineOk (l.getD i default) = false then 4 else
  if (l.getD i default).fence < 1 ∨ 1073741824 < (l.getD i default).fence then 2 else
  if 0 < i ∧ Op.bytesLess (l.getD (i - 1) default).name.toList (l.getD i default).name.toList = false then 14 else 0
def mLocks (l : List DLock) : Int := if 5 < l.length then 1 else firstF (lockF l) (l.length - 0) 0
theorem abs_at {s : Sl CLock} (q : Nat) : (s.xs.map CLock.abs).getD q default = (s.at q).abs := by
  unfold Sl.at
  rw [List.getD_eq_getElem?_getD, List.getD_eq_getElem?_getD, List.getElem?_map]
  cases s.xs[q]? <;> rfl
/-- a number is among the first ones -/
theorem any_none {s : Sl Int} {k : Nat} {n : Int} (hk : k ≤ s.n) (h : ∀ j, j < k → ¬ s.at j = n) : ((s.xs.take k).any fun z => decide (z = n)) = false := by
  rw [List.any_eq_false]
  intro z hz
  obtain ⟨j, hj, rfl⟩ := List.getElem_of_mem hz
  have hj1 : j < k := by rw [List.length_take] at hj; omega
  have hj2 : j < s.n := by omega
  have h1 := Sl.at_some hj2
  rw [List.getElem_take]
  rw [List.getElem?_eq_getElem (show j < s.xs.length from hj2)] at h1
  injection h1 with h1
  rw [h1]
  simpa using h j hj1
theorem any_here {s : Sl Int} {k j : Nat} {n : Int} (hk : k ≤ s.n) (hj : j < k) (h : s.at j = n) : ((s.xs.take k).any fun z => decide (z = n)) = true := by
  rw [List.any_eq_true]
  have hj2 : j < s.n := by omega
  have h1 := Sl.at_some hj2
  refine ⟨s.at j, ?_, by simpa using h⟩
  refine List.mem_iff_getElem?.2 ⟨j, ?_⟩
  rw [List.getElem?_take, if_pos hj]
  exact h1
theorem take_at {α : Type} [Inhabited α] {s : Sl α} {k j : Nat} (hj : j < k) : (⟨s.A, s.c, s.xs.take k⟩ : Sl α).at j = s.at j := by
  unfold Sl.at
  rw [List.getD_eq_getElem?_getD, List.getD_eq_getElem?_getD, List.getElem?_take, if_pos hj]
theorem take_n {α : Type} {s : Sl α} {k : Nat} (hk : k ≤ s.n) : (⟨s.A, s.c, s.xs.take k⟩ : Sl α).n = k := by
  show (s.xs.take k).length = k
  rw [List.length_take]
  exact Nat.min_eq_left hk
theorem mIdxT_none {α : Type} [Inhabited α] {s : Sl α} {k : Nat} {p : α → Bool} (hk : k ≤ s.n) (h : ∀ j, j < k → p (s.at j) = false) : mIdx p (s.xs.take k) = -1 :=
  mIdx_none (s := (⟨s.A, s.c, s.xs.take k⟩ : Sl α)) fun j hj => by
    rw [take_n hk] at hj
    rw [take_at hj]
    exact h j hj
theorem mIdxT_here {α : Type} [Inhabited α] {s : Sl α} {k i : Nat} {p : α → Bool} (hk : k ≤ s.n) (hi : i < k) (hp : p (s.at i) = true) (h : ∀ j, j < i → p (s.at j) = false) : mIdx p (s.xs.take k) = (i : Int) :=
  mIdx_here (s := (⟨s.A, s.c, s.xs.take k⟩ : Sl α)) (by rw [take_n hk]; exact hi) (by rw [take_at hi]; exact hp) fun j hj => by
    rw [take_at (by omega)]
    exact h j hj
end Go.Proofs.Ytececkgjacccmad.Fw

namespace Go.Proofs.Ytececkgjacccmad.Fw
open Go.RowKit
theorem firstF_zero {f : Nat → Int} : ∀ {n i : Nat}, firstF f n i = 0 → ∀ j, i ≤ j → j < i + n → f j = 0
  | 0, i, _, j, h1, h2 => by omega
  | n + 1, i, h, j, h1, h2 => by
    simp only [firstF] at h
    split at h
    · rename_i h0
      rcases Nat.eq_or_lt_of_le h1 with h3 | h3
      · subst h3; exact h0
      · exact firstF_zero h j h3 (by omega)
    · rename_i h0
      exact absurd h h0
theorem firstF_all {f : Nat → Int} {n : Nat} (h : firstF f (n - 0) 0 = 0) : ∀ j, j < n → f j = 0 := fun j hj => firstF_zero h j (Nat.zero_le _) (by omega)
theorem allTo_good {p : Nat → Bool} : ∀ {n : Nat}, allTo p n = true → ∀ j, j < n → p j = true
  | 0, _, j, hj => absurd hj (Nat.not_lt_zero _)
  | n + 1, h, j, hj => by
    simp only [allTo, Bool.and_eq_true] at h
    rcases Nat.lt_succ_iff_lt_or_eq.1 hj with h1 | h1
    · exact allTo_good h.1 j h1
    · subst h1; exact h.2
theorem allTo_step {p : Nat → Bool} {n : Nat} (h : allTo p n = true) (h2 : p n = true) : allTo p (n + 1) = true := by
  simp only [allTo, h, h2, Bool.and_self]
/-! ### sessions that may be -/
def keptOk (d : DSession) (j : Nat) : Bool :=
  decide (d.acked < (d.replies.getD j default).seq ∧ (d.replies.getD j default).seq ≤ d.acked + 4 ∧ (0 < j → (d.replies.getD (j - 1) default).seq < (d.replies.getD j default).seq) ∧
    0 ≤ (d.replies.getD j default).reply.code ∧ (d.replies.getD j default).reply.code ≤ 15 ∧ 0 ≤ (d.replies.getD j default).reply.n ∧ (d.replies.getD j default).reply.n ≤ 1073741824 ∧ ((d.replies.getD j default).reply.text.size : Int) ≤ 12)
def mReplies (d : DSession) : Bool := allTo (keptOk d) d.replies.length
def sessF (l : List DSession) (index : Int) (i : Nat) : Int :=
  if (l.getD i default).client < 1 ∨ 9 < (l.getD i default).client ∨ (l.getD i default).acked < 0 ∨ 1048576 < (l.getD i default).acked ∨ (l.getD i default).id < 1 ∨ (l.getD i default).last < (l.getD i default).id ∨ index < (l.getD i default).last then 2 else
  if mReplies (l.getD i default) = false then 4 else
  if 0 < i ∧ (l.getD i default).client ≤ (l.getD (i - 1) default).client then 14 else 0
def mSess (l : List DSession) (index : Int) : Int :=
  if index < 0 ∨ 1073741824 < index then 2 else if 4 < l.length then 1 else firstF (sessF l index) (l.length - 0) 0
theorem sabs_at {s : Sl CSession} (q : Nat) : (s.xs.map CSession.abs).getD q default = (s.at q).abs := by
  unfold Sl.at
  rw [List.getD_eq_getElem?_getD, List.getD_eq_getElem?_getD, List.getElem?_map]
  cases s.xs[q]? <;> rfl
theorem mSess_bd {l : List DSession} {index : Int} (h : mSess l index = 0) : 0 ≤ index ∧ index ≤ 1073741824 ∧ l.length ≤ 4 ∧ ∀ j, j < l.length → sessF l index j = 0 := by
  unfold mSess at h
  split at h
  · cases h
  split at h
  · cases h
  exact ⟨by omega, by omega, by omega, firstF_all h⟩
theorem sessF_bd {l : List DSession} {index : Int} {j : Nat} (h : sessF l index j = 0) : 1 ≤ (l.getD j default).client ∧ (l.getD j default).client ≤ 9 ∧ 0 ≤ (l.getD j default).acked ∧ (l.getD j default).acked ≤ 1048576 ∧ 1 ≤ (l.getD j default).id ∧ (l.getD j default).id ≤ (l.getD j default).last ∧ (l.getD j default).last ≤ index ∧ mReplies (l.getD j default) = true ∧ (0 < j → (l.getD (j - 1) default).client < (l.getD j default).client) := by
  unfold sessF at h
  split at h
  · cases h
  split at h
  · cases h
  rename_i h2
  split at h
  · cases h
  have h2' : mReplies (l.getD j default) = true := by simpa using h2
  exact ⟨by omega, by omega, by omega, by omega, by omega, by omega, by omega, h2', by omega⟩
end Go.Proofs.Ytececkgjacccmad.Fw
namespace Go.Proofs.Ytececkgjacccmad.Fw
theorem lineOk_false {d : DLock} (h : allTo (posOk d) d.line.length = false ∨ 3 < d.line.length ∨ (d.holder = 0 ∧ 0 < d.line.length)) : lineOk d = false := by
  unfold lineOk
  rcases h with h | h | ⟨h1, h2⟩
  · rw [h]; rfl
  · rw [decide_eq_false (show ¬ d.line.length ≤ 3 by omega)]; simp
  · rw [decide_eq_true h1, decide_eq_false (show ¬ d.line.length = 0 by omega)]; simp
theorem lineOk_true {d : DLock} (h : allTo (posOk d) d.line.length = true) (h2 : d.line.length ≤ 3) (h3 : ¬ d.holder = 0 ∨ d.line.length = 0) : lineOk d = true := by
  unfold lineOk
  rw [h, decide_eq_true h2]
  rcases h3 with h3 | h3
  · rw [decide_eq_false h3]; simp
  · rw [decide_eq_true h3]; simp
end Go.Proofs.Ytececkgjacccmad.Fw

namespace Go.Proofs.Ytececkgjacccmad.Fw
open Go.RowKit
/-! ### the search that halves -/
def bsGo (p : Nat → Bool) : Nat → Nat → Nat → Nat
  | 0, lo, _ => lo
  | f + 1, lo, hi => if lo < hi then (if p ((lo + hi) / 2) then bsGo p f ((lo + hi) / 2 + 1) hi else bsGo p f lo ((lo + hi) / 2)) else lo
theorem bsGo_le (p : Nat → Bool) : ∀ (f lo hi : Nat), lo ≤ hi → lo ≤ bsGo p f lo hi ∧ bsGo p f lo hi ≤ hi
  | 0, lo, hi, h => ⟨Nat.le_refl _, h⟩
  | f + 1, lo, hi, h => by
    simp only [bsGo]
    split
    · split
      · have := bsGo_le p f ((lo + hi) / 2 + 1) hi (by omega); omega
      · have := bsGo_le p f lo ((lo + hi) / 2) (by omega); omega
    · exact ⟨Nat.le_refl _, h⟩
theorem bsGo_end (p : Nat → Bool) (f lo hi : Nat) (h : hi ≤ lo) : bsGo p f lo hi = lo := by
  cases f with
  | zero => rfl
  | succ f => simp only [bsGo]; rw [if_neg (by omega)]
theorem bsGo_up {p : Nat → Bool} {f lo hi : Nat} (h : lo < hi) (hp : p ((lo + hi) / 2) = true) : bsGo p (f + 1) lo hi = bsGo p f ((lo + hi) / 2 + 1) hi := by simp only [bsGo]; rw [if_pos h, if_pos hp]
theorem bsGo_down {p : Nat → Bool} {f lo hi : Nat} (h : lo < hi) (hp : p ((lo + hi) / 2) = false) : bsGo p (f + 1) lo hi = bsGo p f lo ((lo + hi) / 2) := by simp only [bsGo]; rw [if_pos h, if_neg (by rw [hp]; simp)]
theorem bsGo_spec {p : Nat → Bool} {n : Nat} (mono : ∀ i j, i < j → j < n → p j = true → p i = true) : ∀ (f lo hi : Nat), lo ≤ hi → hi ≤ n → hi - lo ≤ f → (∀ j, j < lo → p j = true) → (∀ j, hi ≤ j → j < n → p j = false) →
    (∀ j, j < bsGo p f lo hi → p j = true) ∧ (∀ j, bsGo p f lo hi ≤ j → j < n → p j = false)
  | 0, lo, hi, h1, h2, h3, h4, h5 => by
    have : lo = hi := by omega
    subst this
    exact ⟨h4, h5⟩
  | f + 1, lo, hi, h1, h2, h3, h4, h5 => by
    simp only [bsGo]
    split
    · split
      · rename_i hp
        refine bsGo_spec mono f _ hi (by omega) h2 (by omega) (fun j hj => ?_) h5
        rcases Nat.lt_succ_iff_lt_or_eq.1 hj with h | h
        · exact mono j _ h (by omega) hp
        · rw [h]; exact hp
      · rename_i hp
        refine bsGo_spec mono f lo _ (by omega) (by omega) (by omega) h4 fun j hj hjn => ?_
        cases hpj : p j with
        | false => rfl
        | true =>
          rcases Nat.eq_or_lt_of_le hj with h | h
          · rw [← h] at hpj; exact absurd hpj hp
          · exact absurd (mono _ j h hjn hpj) hp
    · have : lo = hi := by omega
      subst this
      exact ⟨h4, h5⟩
def mBS {α : Type} [Inhabited α] (c : α → Int) (L : List α) : Nat := bsGo (fun j => decide (c (L.getD j default) < 0)) L.length 0 L.length
def mBSf {α : Type} [Inhabited α] (c : α → Int) (L : List α) : Bool := decide (mBS c L < L.length) && decide (c (L.getD (mBS c L) default) = 0)
theorem mBS_le {α : Type} [Inhabited α] (c : α → Int) (L : List α) : mBS c L ≤ L.length := (bsGo_le _ _ 0 L.length (Nat.zero_le _)).2
/-- sorted for the search -/
def Srt {α : Type} [Inhabited α] (c : α → Int) (L : List α) : Prop := ∀ i j, i < j → j < L.length → 0 ≤ c (L.getD i default) → 0 < c (L.getD j default)
theorem mBS_spec {α : Type} [Inhabited α] {c : α → Int} {L : List α} (h : Srt c L) : (∀ j, j < mBS c L → c (L.getD j default) < 0) ∧ (∀ j, mBS c L ≤ j → j < L.length → 0 ≤ c (L.getD j default)) := by
  have := bsGo_spec (p := fun j => decide (c (L.getD j default) < 0)) (n := L.length) (fun i j hij hj hp => by
    have hp' := of_decide_eq_true hp
    refine decide_eq_true ?_
    rcases Int.lt_or_le (c (L.getD i default)) 0 with h1 | h1
    · exact h1
    · have := h i j hij hj h1; omega) L.length 0 L.length (Nat.zero_le _) (Nat.le_refl _) (by omega) (fun j hj => absurd hj (Nat.not_lt_zero _)) (fun j hj hjn => absurd hjn (by omega))
  exact ⟨fun j hj => of_decide_eq_true (this.1 j hj), fun j hj hjn => by have := of_decide_eq_false (this.2 j hj hjn); omega⟩
/-- the first one, of a list -/
theorem mIdxL_none {α : Type} [Inhabited α] {L : List α} {p : α → Bool} (h : ∀ j, j < L.length → p (L.getD j default) = false) : mIdx p L = -1 := mIdx_none (s := (⟨none, 0, L⟩ : Sl α)) h
theorem mIdxL_here {α : Type} [Inhabited α] {L : List α} {p : α → Bool} {i : Nat} (hi : i < L.length) (hp : p (L.getD i default) = true) (h : ∀ j, j < i → p (L.getD j default) = false) : mIdx p L = (i : Int) := mIdx_here (s := (⟨none, 0, L⟩ : Sl α)) hi hp h
theorem mIdx_cases {α : Type} [Inhabited α] (p : α → Bool) (L : List α) : (mIdx p L = -1 ∧ ∀ j, j < L.length → p (L.getD j default) = false) ∨ ∃ i, i < L.length ∧ mIdx p L = (i : Int) ∧ p (L.getD i default) = true ∧ ∀ j, j < i → p (L.getD j default) = false := by
  by_cases h : ∃ i, i < L.length ∧ p (L.getD i default) = true
  · right
    have key : ∀ n, (∃ i, i < n ∧ i < L.length ∧ p (L.getD i default) = true) → ∃ i, i < L.length ∧ p (L.getD i default) = true ∧ ∀ j, j < i → p (L.getD j default) = false := by
      intro n
      induction n with
      | zero => rintro ⟨i, h1, _⟩; omega
      | succ n ih =>
        rintro ⟨i, h1, h2, h3⟩
        by_cases h4 : ∃ i, i < n ∧ i < L.length ∧ p (L.getD i default) = true
        · exact ih h4
        · refine ⟨i, h2, h3, fun j hj => ?_⟩
          cases hp : p (L.getD j default) with
          | false => rfl
          | true => exact absurd ⟨j, by omega, by omega, hp⟩ h4
    obtain ⟨i, h1, h2⟩ := h
    obtain ⟨k, h3, h4, h5⟩ := key (i + 1) ⟨i, by omega, h1, h2⟩
    exact ⟨k, h3, mIdxL_here h3 h4 h5, h4, h5⟩
  · left
    have h2 : ∀ j, j < L.length → p (L.getD j default) = false := fun j hj => by
      cases hp : p (L.getD j default) with
      | false => rfl
      | true => exact absurd ⟨j, hj, hp⟩ h
    exact ⟨mIdxL_none h2, h2⟩
theorem mIdx_bd {α : Type} [Inhabited α] (p : α → Bool) (L : List α) : -1 ≤ mIdx p L ∧ mIdx p L < L.length := by
  rcases mIdx_cases p L with ⟨h, _⟩ | ⟨i, h1, h2, _⟩
  · rw [h]; omega
  · rw [h2]; omega
theorem bs_none {α : Type} [Inhabited α] {c : α → Int} {L : List α} (h : ∀ j, j < L.length → ¬ c (L.getD j default) = 0) : mBSf c L = false ∧ mIdx (fun x => decide (c x = 0)) L = -1 := by
  refine ⟨?_, mIdxL_none fun j hj => decide_eq_false (h j hj)⟩
  unfold mBSf
  by_cases h1 : mBS c L < L.length
  · rw [decide_eq_false (h _ h1)]; simp
  · rw [decide_eq_false h1]; rfl
theorem bs_srt {α : Type} [Inhabited α] {c : α → Int} {L : List α} (h : Srt c L) : mBSf c L = decide (0 ≤ mIdx (fun x => decide (c x = 0)) L) ∧ (mBSf c L = true → (mBS c L : Int) = mIdx (fun x => decide (c x = 0)) L) := by
  have hs := mBS_spec h
  by_cases h1 : mBS c L < L.length ∧ c (L.getD (mBS c L) default) = 0
  · have h2 : mIdx (fun x => decide (c x = 0)) L = (mBS c L : Int) := mIdxL_here h1.1 (decide_eq_true h1.2) fun j hj => decide_eq_false (by have := hs.1 j hj; omega)
    have h3 : mBSf c L = true := by unfold mBSf; rw [decide_eq_true h1.1, decide_eq_true h1.2]; rfl
    rw [h3, h2]
    exact ⟨by simp, fun _ => rfl⟩
  · have h3 : mBSf c L = false := by
      unfold mBSf
      by_cases h4 : mBS c L < L.length
      · rw [decide_eq_false (fun e => h1 ⟨h4, e⟩)]; simp
      · rw [decide_eq_false h4]; rfl
    have h2 : mIdx (fun x => decide (c x = 0)) L = -1 := mIdxL_none fun j hj => decide_eq_false fun e => by
      by_cases h4 : mBS c L < L.length
      · have h5 := hs.2 _ (Nat.le_refl _) h4
        have h6 : 0 < c (L.getD (mBS c L) default) := by
          rcases Int.lt_or_eq_of_le h5 with h7 | h7
          · exact h7
          · exact absurd ⟨h4, h7.symm⟩ h1
        rcases Nat.lt_or_ge j (mBS c L) with h7 | h7
        · have := hs.1 j h7; omega
        · rcases Nat.eq_or_lt_of_le h7 with h8 | h8
          · rw [h8] at h6; omega
          · have := h _ j h8 hj h5; omega
      · have := hs.1 j (by omega); omega
    rw [h3, h2]
    exact ⟨rfl, fun h => by cases h⟩

/-! ### names in order -/
def cmpS (a b : ByteArray) : Int := Lib.compareBytes a.data.toList b.data.toList
theorem cb_lt : ∀ a b : List UInt8, Lib.compareBytes a b < 0 ↔ Op.bytesLess a b = true
  | [], [] => by simp [Lib.compareBytes, Op.bytesLess]
  | [], _ :: _ => by simp [Lib.compareBytes, Op.bytesLess]
  | _ :: _, [] => by simp [Lib.compareBytes, Op.bytesLess]
  | x :: a, y :: b => by
    have ih := cb_lt a b
    simp only [Lib.compareBytes, Op.bytesLess]
    by_cases h1 : x < y
    · simp [h1]
    · by_cases h2 : y < x
      · have h3 : ¬ x = y := fun e => by subst e; exact h1 h2
        simp [h1, h2, h3]
      · have h3 : x = y := UInt8.le_antisymm (UInt8.not_lt.1 h2) (UInt8.not_lt.1 h1)
        subst h3
        simp [h1, ih]
theorem cb_eq : ∀ a b : List UInt8, Lib.compareBytes a b = 0 ↔ a = b
  | [], [] => by simp [Lib.compareBytes]
  | [], _ :: _ => by simp [Lib.compareBytes]
  | _ :: _, [] => by simp [Lib.compareBytes]
  | x :: a, y :: b => by
    have ih := cb_eq a b
    simp only [Lib.compareBytes]
    by_cases h1 : x < y
    · have h3 : ¬ x = y := fun e => by subst e; exact UInt8.lt_irrefl x h1
      simp [h1, h3]
    · by_cases h2 : y < x
      · have h3 : ¬ x = y := fun e => by subst e; exact h1 h2
        simp [h1, h2, h3]
      · have h3 : x = y := UInt8.le_antisymm (UInt8.not_lt.1 h2) (UInt8.not_lt.1 h1)
        subst h3
        simp [h1, ih]
theorem cb_bd : ∀ a b : List UInt8, -1 ≤ Lib.compareBytes a b ∧ Lib.compareBytes a b ≤ 1
  | [], [] => by simp [Lib.compareBytes]
  | [], _ :: _ => by simp [Lib.compareBytes]
  | _ :: _, [] => by simp [Lib.compareBytes]
  | x :: a, y :: b => by
    have ih := cb_bd a b
    simp only [Lib.compareBytes]
    split
    · omega
    · split
      · omega
      · exact ih
theorem cmpS_lt (a b : ByteArray) : cmpS a b < 0 ↔ Op.bytesLess a.toList b.toList = true := by
  rw [ByteArray.toList_eq, ByteArray.toList_eq]; exact cb_lt _ _
theorem cmpS_eq (a b : ByteArray) : cmpS a b = 0 ↔ a = b := by
  unfold cmpS
  rw [cb_eq]
  exact ⟨fun h => ByteArray.ext (Array.toList_inj.1 h), fun h => by rw [h]⟩
theorem bl_trans : ∀ a b c : List UInt8, Op.bytesLess a b = true → Op.bytesLess b c = true → Op.bytesLess a c = true
  | [], _, [], h1, h2 => by cases ‹List UInt8› <;> simp [Op.bytesLess] at *
  | [], _, _ :: _, _, _ => by simp [Op.bytesLess]
  | _ :: _, [], _, h1, _ => by simp [Op.bytesLess] at h1
  | _ :: _, _ :: _, [], _, h2 => by simp [Op.bytesLess] at h2
  | x :: a, y :: b, z :: c, h1, h2 => by
    have ih := bl_trans a b c
    simp only [Op.bytesLess, Bool.or_eq_true, decide_eq_true_eq, Bool.and_eq_true, beq_iff_eq] at h1 h2 ⊢
    rcases h1 with h1 | ⟨rfl, h1⟩ <;> rcases h2 with h2 | ⟨rfl, h2⟩
    · exact .inl (UInt8.lt_trans h1 h2)
    · exact .inl h1
    · exact .inl h2
    · exact .inr ⟨rfl, ih h1 h2⟩
theorem bl_irr (a : List UInt8) : Op.bytesLess a a = false := by
  cases h : Op.bytesLess a a with
  | false => rfl
  | true =>
    have := bl_total a a
    rw [h] at this
    simp at this
/-- names that rise: sorted for every search -/
theorem srt_names {α : Type} [Inhabited α] {L : List α} (nm : α → ByteArray) (t : ByteArray) (h : ∀ i, 0 < i → i < L.length → Op.bytesLess (nm (L.getD (i - 1) default)).toList (nm (L.getD i default)).toList = true) : Srt (fun x => cmpS (nm x) t) L := by
  have step : ∀ d i, i + d + 1 < L.length → Op.bytesLess (nm (L.getD i default)).toList (nm (L.getD (i + d + 1) default)).toList = true := by
    intro d
    induction d with
    | zero => intro i hi; have := h (i + 1) (by omega) hi; simpa using this
    | succ d ih => intro i hi; exact bl_trans _ _ _ (ih i (by omega)) (by have := h (i + (d + 1) + 1) (by omega) hi; simpa [Nat.add_assoc] using this)
  intro i j hij hj h0
  have h1 := step (j - i - 1) i (by omega)
  rw [show i + (j - i - 1) + 1 = j by omega] at h1
  have h2 : ¬ cmpS (nm (L.getD i default)) t < 0 := by show ¬ _; intro h; have h0' : 0 ≤ cmpS (nm (L.getD i default)) t := h0; omega
  rw [cmpS_lt] at h2
  have h3 : ¬ cmpS (nm (L.getD j default)) t < 0 := fun h4 => h2 (bl_trans _ _ _ h1 ((cmpS_lt _ _).1 h4))
  have h4 : ¬ cmpS (nm (L.getD j default)) t = 0 := fun h5 => h2 (by rw [cmpS_eq] at h5; rw [← h5]; exact h1)
  show 0 < cmpS (nm (L.getD j default)) t
  omega
theorem mPairs_bd {l : List DPair} (h : mPairs l = 0) : l.length ≤ 5 ∧ ∀ j, j < l.length → pairF l j = 0 := by
  unfold mPairs at h
  split at h
  · cases h
  exact ⟨by omega, firstF_all h⟩
theorem pairF_bd {l : List DPair} {j : Nat} (h : pairF l j = 0) : mName (l.getD j default).name = true ∧ ((l.getD j default).value.size : Int) ≤ 12 ∧ 1 ≤ (l.getD j default).version ∧ (l.getD j default).version ≤ 1073741824 ∧ (0 < j → Op.bytesLess (l.getD (j - 1) default).name.toList (l.getD j default).name.toList = true) := by
  unfold pairF at h
  split at h
  · cases h
  rename_i h1
  split at h
  · cases h
  split at h
  · cases h
  split at h
  · cases h
  rename_i h4
  refine ⟨by simpa using h1, by omega, by omega, by omega, fun hj => ?_⟩
  cases hb : Op.bytesLess (l.getD (j - 1) default).name.toList (l.getD j default).name.toList with
  | true => rfl
  | false => exact absurd ⟨hj, hb⟩ h4
theorem mLocks_bd {l : List DLock} (h : mLocks l = 0) : l.length ≤ 5 ∧ ∀ j, j < l.length → lockF l j = 0 := by
  unfold mLocks at h
  split at h
  · cases h
  exact ⟨by omega, firstF_all h⟩
theorem lockF_bd {l : List DLock} {j : Nat} (h : lockF l j = 0) : mName (l.getD j default).name = true ∧ 0 ≤ (l.getD j default).holder ∧ (l.getD j default).holder ≤ 9 ∧ lineOk (l.getD j default) = true ∧ 1 ≤ (l.getD j default).fence ∧ (l.getD j default).fence ≤ 1073741824 ∧ (0 < j → Op.bytesLess (l.getD (j - 1) default).name.toList (l.getD j default).name.toList = true) := by
  unfold lockF at h
  split at h
  · cases h
  rename_i h1
  split at h
  · cases h
  split at h
  · cases h
  rename_i h4
  refine ⟨?_, by omega, by omega, ?_, by omega, by omega, fun hj => ?_⟩
  · cases hb : mName (l.getD j default).name with
    | true => rfl
    | false => exact absurd (.inl hb) h1
  · cases hb : lineOk (l.getD j default) with
    | true => rfl
    | false => exact absurd (.inr (.inr (.inr hb))) h1
  · cases hb : Op.bytesLess (l.getD (j - 1) default).name.toList (l.getD j default).name.toList with
    | true => rfl
    | false => exact absurd ⟨hj, hb⟩ h4
theorem pairs_srt {l : List DPair} (h : mPairs l = 0) (t : ByteArray) : Srt (fun x : DPair => cmpS x.name t) l := srt_names DPair.name t fun i hi hl => (pairF_bd ((mPairs_bd h).2 i hl)).2.2.2.2 hi
theorem locks_srt {l : List DLock} (h : mLocks l = 0) (t : ByteArray) : Srt (fun x : DLock => cmpS x.name t) l := srt_names DLock.name t fun i hi hl => (lockF_bd ((mLocks_bd h).2 i hl)).2.2.2.2.2.2 hi
theorem name_pred {α : Type} (nm : α → ByteArray) (t : ByteArray) : (fun x : α => decide (cmpS (nm x) t = 0)) = fun x => decide (nm x = t) := by
  funext x
  rw [decide_eq_decide.2 (cmpS_eq (nm x) t)]
end Go.Proofs.Ytececkgjacccmad.Fw

namespace Go.Proofs.Ytececkgjacccmad.Fw
open Go.RowKit
/-! ### what is deleted -/
theorem getD_drop {α : Type} [Inhabited α] {M L : List α} {j : Nat} (h : M.drop j = L.drop j) (hj : j < L.length) : M.getD j default = L.getD j default := by
  have h1 := congrArg (fun l => l[0]?) h
  simp only [List.getElem?_drop, Nat.add_zero] at h1
  rw [List.getD_eq_getElem?_getD, List.getD_eq_getElem?_getD, h1]
theorem drop_next {α : Type} {M L : List α} {j : Nat} (h : M.drop j = L.drop j) : M.drop (j + 1) = L.drop (j + 1) := by
  have h1 := congrArg (List.drop 1) h
  simpa only [List.drop_drop] using h1
theorem delF_none {α : Type} [Inhabited α] {p : α → Bool} {L : List α} (h : mIdx p L = -1) : L.filter (fun x => !p x) = L := by
  rcases mIdx_cases p L with ⟨_, h2⟩ | ⟨i, _, h2, _⟩
  · rw [List.filter_eq_self]
    intro x hx
    obtain ⟨j, hj, rfl⟩ := List.getElem_of_mem hx
    have := h2 j hj
    rw [List.getD_eq_getElem?_getD, List.getElem?_eq_getElem hj] at this
    simpa using this
  · omega
theorem delF_some {α : Type} [Inhabited α] {p : α → Bool} {L : List α} (h : ¬ mIdx p L = -1) : ∃ i, i < L.length ∧ (∀ j, j < i → p (L.getD j default) = false) ∧ p (L.getD i default) = true ∧ mIdx p L = (i : Int) := by
  rcases mIdx_cases p L with ⟨h1, _⟩ | ⟨i, h1, h2, h3, h4⟩
  · exact absurd h1 h
  · exact ⟨i, h1, h4, h3, h2⟩
theorem filter_take {α : Type} [Inhabited α] {p : α → Bool} {L : List α} {i : Nat} (hi : i ≤ L.length) (h : ∀ j, j < i → p (L.getD j default) = false) : (L.take i).filter (fun x => !p x) = L.take i := by
  rw [List.filter_eq_self]
  intro x hx
  obtain ⟨j, hj, rfl⟩ := List.getElem_of_mem hx
  have hj' : j < i := by rw [List.length_take] at hj; omega
  have h1 := h j hj'
  rw [List.getD_eq_getElem?_getD, List.getElem?_eq_getElem (by omega)] at h1
  rw [List.getElem_take]
  simpa using h1
theorem take_snocL {α : Type} [Inhabited α] {L : List α} {i : Nat} (hi : i < L.length) : L.take (i + 1) = L.take i ++ [L.getD i default] := by
  rw [List.take_add_one, getD_some hi]; rfl
theorem filt1 {α : Type} {p : α → Bool} {x : α} (h : p x = true) : [x].filter (fun x => !p x) = [] := by rw [List.filter_cons, h]; rfl
theorem filt0 {α : Type} {p : α → Bool} {x : α} (h : p x = false) : [x].filter (fun x => !p x) = [x] := by rw [List.filter_cons, h]; rfl
theorem delF_start {α : Type} [Inhabited α] {p : α → Bool} {L : List α} {i : Nat} (hi : i < L.length) (h : ∀ j, j < i → p (L.getD j default) = false) (hp : p (L.getD i default) = true) : L.take i = (L.take (i + 1)).filter (fun x => !p x) := by
  rw [take_snocL hi, List.filter_append, filter_take (by omega) h, filt1 hp, List.append_nil]
theorem delF_skip {α : Type} [Inhabited α] {p : α → Bool} {L M : List α} {i j : Nat} (hj : j < L.length) (h : M.take i = (L.take j).filter (fun x => !p x)) (hp : p (L.getD j default) = true) : M.take i = (L.take (j + 1)).filter (fun x => !p x) := by
  rw [take_snocL hj, List.filter_append, ← h, filt1 hp, List.append_nil]
theorem delF_keep {α : Type} [Inhabited α] {p : α → Bool} {L M : List α} {i j : Nat} (hij : i < j) (hj : j < L.length) (hM : M.length = L.length) (h : M.take i = (L.take j).filter (fun x => !p x)) (hp : p (L.getD j default) = false) (hjL : M.getD j default = L.getD j default) : (M.set i (M.getD j default)).take (i + 1) = (L.take (j + 1)).filter (fun x => !p x) := by
  rw [take_snocL hj, List.filter_append, ← h, filt0 hp, take_snocL (by rw [List.length_set]; omega)]
  rw [List.take_set_of_le (Nat.le_refl _), List.getD_eq_getElem?_getD, List.getElem?_set_self (by omega), hjL]
  rfl
theorem delF_drop {α : Type} {L M : List α} {i j : Nat} {x : α} (hij : i < j) (h : M.drop j = L.drop j) : (M.set i x).drop (j + 1) = L.drop (j + 1) := by
  rw [List.drop_set_of_lt (by omega)]
  exact drop_next h
end Go.Proofs.Ytececkgjacccmad.Fw

namespace Go.Proofs.Ytececkgjacccmad.Fw
open Go.RowKit
/-! ### what is small because it may be -/
theorem mReplies_len {d : DSession} (h : mReplies d = true) : d.replies.length ≤ 4 := by
  have key : ∀ j, j < d.replies.length → d.acked + 1 + (j : Int) ≤ (d.replies.getD j default).seq := by
    intro j
    induction j with
    | zero => intro hj; have := of_decide_eq_true (allTo_good h 0 hj); omega
    | succ j ih =>
      intro hj
      have h1 := ih (by omega)
      have h2 := of_decide_eq_true (allTo_good h (j + 1) hj)
      have h3 := h2.2.2.1 (by omega)
      simp only [Nat.add_sub_cancel] at h3
      omega
  rcases Nat.lt_or_ge 4 d.replies.length with h1 | h1
  · have h2 := key 4 h1
    have h3 := of_decide_eq_true (allTo_good h 4 h1)
    omega
  · exact h1
theorem small_sess {s : Sl CSession} {n : Int} (h : mSess (s.xs.map CSession.abs) n = 0) : Rds.small s := by
  obtain ⟨_, _, h3, h4⟩ := mSess_bd h
  have hl : (s.xs.map CSession.abs).length = s.n := by simp
  refine ⟨by omega, fun i hi => ?_⟩
  have h5 := (sessF_bd (h4 i (by omega))).2.2.2.2.2.2.2.1
  rw [sabs_at] at h5
  have h6 := mReplies_len h5
  have h7 : (s.at i).abs.replies.length = (s.at i).replies.n := rfl
  exact ⟨by omega, fun _ _ => trivial⟩
theorem small_locks {s : Sl CLock} (h : mLocks (s.xs.map CLock.abs) = 0) : Rds.small s := by
  obtain ⟨h3, h4⟩ := mLocks_bd h
  have hl : (s.xs.map CLock.abs).length = s.n := by simp
  refine ⟨by omega, fun i hi => ?_⟩
  have h5 := (lockF_bd (h4 i (by omega))).2.2.2.1
  rw [abs_at] at h5
  simp only [lineOk, Bool.and_eq_true, decide_eq_true_eq] at h5
  have h7 : (s.at i).abs.line.length = (s.at i).line.n := rfl
  exact ⟨by omega, fun _ _ => trivial⟩
theorem small_sess2 {s y : Sl CSession} (h : y.xs.map CSession.abs = s.xs.map CSession.abs) (hs : Rds.small s) : Rds.small y := by
  have hn : y.n = s.n := map_n h
  refine ⟨by rw [hn]; exact hs.1, fun i hi => ?_⟩
  have h1 := map_at (f := CSession.abs) (g := CSession.abs) rfl h i
  have h2 := xs_n (a := (y.at i).replies) (b := (s.at i).replies) (congrArg DSession.replies h1)
  have h3 := (hs.2 i (by omega)).1
  exact ⟨by omega, fun _ _ => trivial⟩
theorem small_locks2 {s y : Sl CLock} (h : y.xs.map CLock.abs = s.xs.map CLock.abs) (hs : Rds.small s) : Rds.small y := by
  have hn : y.n = s.n := map_n h
  refine ⟨by rw [hn]; exact hs.1, fun i hi => ?_⟩
  have h1 := map_at (f := CLock.abs) (g := CLock.abs) rfl h i
  have h2 := xs_n (a := (y.at i).line) (b := (s.at i).line) (congrArg DLock.line h1)
  have h3 := (hs.2 i (by omega)).1
  exact ⟨by omega, fun _ _ => trivial⟩
/-! ### locks and sessions of our own -/
theorem own_sess {eS eK : Nat} {A : Option Addr} {c : Nat} {L : List CSession} {w : World} (h1 : (ownL (keptR eK) L).p w) (h2 : (rowA eS A c L).p w) (hn : ∀ x, x ∈ L → ∀ k, k ∈ x.replies.xs → k.reply.text.size ≤ 9223372036854775807) : Sl.rd anyB w (⟨A, c, L⟩ : Sl CSession) :=
  rowA_rd h2 (fun _ _ => trivial) fun x hx => rowA_rd (h1 x hx) (fun _ _ => trivial) fun k hk => hn x hx k hk
theorem own_locks {eL eI : Nat} {A : Option Addr} {c : Nat} {L : List CLock} {w : World} (h1 : (ownL (lineR eI) L).p w) (h2 : (rowA eL A c L).p w) (hn : ∀ x, x ∈ L → x.name.size ≤ 9223372036854775807) : Sl.rd anyB w (⟨A, c, L⟩ : Sl CLock) :=
  rowA_rd h2 (fun _ _ => trivial) fun x hx => ⟨hn x hx, rowA_rd (h1 x hx) (fun _ _ => trivial) fun _ _ => trivial⟩
theorem out_sess {R : List Res} {eS eK : Nat} {A : Option Addr} {c : Nat} {L L0 : List CSession} {w : World} (hr : rowA eS A c L ∈ R) (ho : ownL (keptR eK) L0 ∈ R) (hR : ∀ r, r ∈ R → r.p w) (hsub : ∀ x, x ∈ L → x ∈ L0) (hn : ∀ x, x ∈ L0 → ∀ k, k ∈ x.replies.xs → k.reply.text.size ≤ 9223372036854775807) : Sl.rd (· ∈ (allR R).fp) w (⟨A, c, L⟩ : Sl CSession) :=
  allR_row hr (hR _ hr) fun x hx => rowA_rd (hR _ ho x (hsub x hx)) (fun b hb => mem_allR ho (List.mem_flatMap.2 ⟨x, hsub x hx, hb⟩)) fun k hk => hn x (hsub x hx) k hk
theorem out_locks {R : List Res} {eS eK : Nat} {A : Option Addr} {c : Nat} {L L0 : List CLock} {w : World} (hr : rowA eS A c L ∈ R) (ho : ownL (lineR eK) L0 ∈ R) (hR : ∀ r, r ∈ R → r.p w) (hsub : ∀ x, x ∈ L → x ∈ L0) (hn : ∀ x, x ∈ L0 → x.name.size ≤ 9223372036854775807) : Sl.rd (· ∈ (allR R).fp) w (⟨A, c, L⟩ : Sl CLock) :=
  allR_row hr (hR _ hr) fun x hx => ⟨hn x (hsub x hx), rowA_rd (hR _ ho x (hsub x hx)) (fun b hb => mem_allR ho (List.mem_flatMap.2 ⟨x, hsub x hx, hb⟩)) fun _ _ => trivial⟩
/-! ### sessions that are fresh -/
def stale (index : Int) (x : DSession) : Bool := decide (40 < index + 1 - x.last)
def mFresh (l : List DSession) (index : Int) : List DSession × Int := if mSess l index = 0 then (l.filter fun x => !stale index x, 0) else ([], mSess l index)
theorem fresh_ok {l : List DSession} {index : Int} (h : mSess l index = 0) : mFresh l index = (l.filter fun x => !stale index x, 0) := by unfold mFresh; rw [if_pos h]
theorem fresh_bad {l : List DSession} {index : Int} (h : ¬ mSess l index = 0) : mFresh l index = ([], mSess l index) := by unfold mFresh; rw [if_neg h]
theorem filter_abs {L : List CSession} {index : Int} : (L.filter fun x => !stale index x.abs).map CSession.abs = (L.map CSession.abs).filter fun x => !stale index x := by
  rw [List.filter_map]; rfl
/-! ### a pair's value -/
def mGot (l : List DPair) (t : ByteArray) : DReply × Int :=
  if mPairs l = 0 then
    (if 0 ≤ mIdx (fun x : DPair => decide (x.name = t)) l then ⟨0, (l.getD (mIdx (fun x : DPair => decide (x.name = t)) l).toNat default).version, (l.getD (mIdx (fun x : DPair => decide (x.name = t)) l).toNat default).value⟩ else ⟨6, 0, emp⟩, 0)
  else (⟨0, 0, emp⟩, mPairs l)
theorem got_bad {l : List DPair} {t : ByteArray} (h : ¬ mPairs l = 0) : mGot l t = (⟨0, 0, emp⟩, mPairs l) := by unfold mGot; rw [if_neg h]
theorem got_none {l : List DPair} {t : ByteArray} (h : mPairs l = 0) (h2 : mIdx (fun x : DPair => decide (x.name = t)) l < 0) : mGot l t = (⟨6, 0, emp⟩, 0) := by unfold mGot; rw [if_pos h, if_neg (by omega)]
theorem got_here {l : List DPair} {t : ByteArray} (h : mPairs l = 0) (h2 : ¬ mIdx (fun x : DPair => decide (x.name = t)) l < 0) : mGot l t = (⟨0, (l.getD (mIdx (fun x : DPair => decide (x.name = t)) l).toNat default).version, (l.getD (mIdx (fun x : DPair => decide (x.name = t)) l).toNat default).value⟩, 0) := by unfold mGot; rw [if_pos h, if_pos (by omega)]
theorem bsf_pair {l : List DPair} (h : mPairs l = 0) (t : ByteArray) : mBSf (fun x : DPair => cmpS x.name t) l = decide (0 ≤ mIdx (fun x : DPair => decide (x.name = t)) l) ∧ (mBSf (fun x : DPair => cmpS x.name t) l = true → (mBS (fun x : DPair => cmpS x.name t) l : Int) = mIdx (fun x : DPair => decide (x.name = t)) l) := by
  have := bs_srt (pairs_srt h t)
  rwa [name_pred DPair.name t] at this
theorem mBSf_lt {α : Type} [Inhabited α] {c : α → Int} {L : List α} (h : mBSf c L = true) : mBS c L < L.length := by
  unfold mBSf at h
  simp only [Bool.and_eq_true, decide_eq_true_eq] at h
  exact h.1
end Go.Proofs.Ytececkgjacccmad.Fw
namespace Go.Proofs.Ytececkgjacccmad.Fw
theorem fresh_in {s : Sl CSession} {n : Int} {L : List CSession} {i : Nat} (h : L = (s.xs.take i).filter fun x => !stale n x.abs) (hi : i < s.n) (hp : stale n (s.xs.getD i default).abs = false) : L ++ [s.xs.getD i default] = (s.xs.take (i + 1)).filter fun x => !stale n x.abs := by
  rw [take_snocL (show i < s.xs.length from hi), List.filter_append, ← h, filt0 (p := fun x : CSession => stale n x.abs) hp]
theorem fresh_out {s : Sl CSession} {n : Int} {L : List CSession} {i : Nat} (h : L = (s.xs.take i).filter fun x => !stale n x.abs) (hi : i < s.n) (hp : stale n (s.xs.getD i default).abs = true) : L = (s.xs.take (i + 1)).filter fun x => !stale n x.abs := by
  rw [take_snocL (show i < s.xs.length from hi), List.filter_append, ← h, filt1 (p := fun x : CSession => stale n x.abs) hp, List.append_nil]
end Go.Proofs.Ytececkgjacccmad.Fw

namespace Go.Proofs.Ytececkgjacccmad.Fw
open Go.RowKit
def mState (x : DState) : Int := if mSess x.sessions x.index = 0 then (if mLocks x.locks = 0 then mPairs x.pairs else mLocks x.locks) else mSess x.sessions x.index
/-! ### commands out of bytes -/
def zOp : DOp := ⟨0, emp, emp, 0⟩
def zCmd : DCommand := ⟨0, 0, 0, 0, 0, zOp⟩
def mBody (c : DCommand) (t : ByteArray) : DCommand × ByteArray × Int :=
  let r1 := mRead t
  if ¬ r1.2.2 = 0 then (c, emp, r1.2.2) else
  let r2 := mRead r1.2.1
  if ¬ r2.2.2 = 0 then (c, emp, r2.2.2) else
  let r3 := mRead r2.2.1
  if ¬ r3.2.2 = 0 then (c, emp, r3.2.2) else
  let r4 := mRead r3.2.1
  if ¬ r4.2.2 = 0 then (c, emp, r4.2.2) else
  let r5 := mRead r4.2.1
  if ¬ r5.2.2 = 0 then (c, emp, r5.2.2) else
  let r6 := mTell r5.2.1
  if ¬ r6.2.2 = 0 then (c, emp, r6.2.2) else
  let r7 := mTell r6.2.1
  if ¬ r7.2.2 = 0 then (c, emp, r7.2.2) else
  (⟨c.kind, c.client, r1.1, r2.1, r3.1, ⟨r4.1, r6.1, r7.1, r5.1⟩⟩, r7.2.1, 0)
def mFin (b : DCommand × ByteArray × Int) : DCommand × Int :=
  if ¬ b.2.2 = 0 then (zCmd, b.2.2) else if ¬ b.2.1 = emp then (zCmd, 4) else if ¬ mCmd b.1 = 0 then (zCmd, mCmd b.1) else (b.1, 0)
def cmd0 (s : ByteArray) : DCommand := ⟨((s.data.getD 0 0).toNat : Int), ((s.data.getD 1 0).toNat : Int), 0, 0, 0, zOp⟩
def mDecode (s : ByteArray) : DCommand × Int :=
  if 5000 < s.size then (zCmd, 1) else if s.size < 2 then (zCmd, 5) else
  if (cmd0 s).kind = 2 then mFin (mBody (cmd0 s) (s.extract 2 s.size)) else mFin (cmd0 s, s.extract 2 s.size, 0)
theorem mDecode_ok {s : ByteArray} (h : (mDecode s).2 = 0) : mCmd (mDecode s).1 = 0 ∧ s.size ≤ 5000 := by
  have key : ∀ b : DCommand × ByteArray × Int, (mFin b).2 = 0 → mCmd (mFin b).1 = 0 := by
    intro b hb
    unfold mFin at hb ⊢
    by_cases h1 : b.2.2 = 0
    · rw [if_neg (by simpa using h1)] at hb ⊢
      by_cases h2 : b.2.1 = emp
      · rw [if_neg (by simpa using h2)] at hb ⊢
        by_cases h3 : mCmd b.1 = 0
        · rw [if_neg (by simpa using h3)] at hb ⊢; exact h3
        · rw [if_pos h3] at hb; exact absurd hb h3
      · rw [if_pos h2] at hb; cases hb
    · rw [if_pos h1] at hb; exact absurd hb h1
  unfold mDecode at h ⊢
  split at h
  · cases h
  · rename_i h0
    split at h
    · cases h
    · rename_i h1
      rw [if_neg h0, if_neg h1]
      refine ⟨?_, by omega⟩
      split at h
      · rename_i h2; rw [if_pos h2]; exact key _ h
      · rename_i h2; rw [if_neg h2]; exact key _ h
/-! ### logs -/
def logF (l : List ByteArray) (i : Nat) : Int := (mDecode (l.getD i default)).2
def mLog (x : DLog) : Int := if x.base < 0 ∨ 1073741424 < x.base then 2 else if 400 < x.entries.length then 1 else firstF (logF x.entries) (x.entries.length - 0) 0
theorem mLog_bd {x : DLog} (h : mLog x = 0) : 0 ≤ x.base ∧ x.base ≤ 1073741424 ∧ x.entries.length ≤ 400 ∧ ∀ j, j < x.entries.length → (mDecode (x.entries.getD j default)).2 = 0 := by
  unfold mLog at h
  split at h
  · cases h
  split at h
  · cases h
  exact ⟨by omega, by omega, by omega, firstF_all h⟩
def mLast (x : DLog) : Int := x.base + (x.entries.length : Int)
def mAt (x : DLog) (i : Int) : ByteArray × Int := if mLog x = 0 then (if x.base < i ∧ i ≤ mLast x then (x.entries.getD (i - x.base - 1).toNat default, 0) else (emp, 6)) else (emp, mLog x)
/-! ### clients -/
def mAck (x : DCustomer) : Int := if 0 < x.waits.length then (x.waits.getD 0 default).seq - 1 else x.next - 1
def mHello (x : DCustomer) : ByteArray × Int := if mCust x = 0 then mEnc ⟨1, x.id, 0, 0, 0, zOp⟩ else (emp, mCust x)
def mReq (x : DCustomer) (k : Int) : ByteArray × Int :=
  if mCust x = 0 then (if 0 ≤ k ∧ k < x.waits.length then mEnc ⟨2, x.id, x.session, (x.waits.getD k.toNat default).seq, mAck x, (x.waits.getD k.toNat default).op⟩ else (emp, 6)) else (emp, mCust x)
def zCust : DCustomer := ⟨0, 0, 0, []⟩
def mStart (x : DCustomer) (o : DOp) : DCustomer × Int :=
  if ¬ mCust x = 0 then (zCust, mCust x) else if x.session = 0 then (zCust, 11) else if ¬ mOp o = 0 then (zCust, mOp o) else
  if 1048576 < x.next ∨ mAck x + 4 < x.next then (zCust, 8) else (⟨x.id, x.session, x.next + 1, x.waits ++ [⟨x.next, o⟩]⟩, 0)
theorem mCust_bd {x : DCustomer} (h : mCust x = 0) : 1 ≤ x.id ∧ x.id ≤ 9 ∧ 0 ≤ x.session ∧ x.session ≤ 1073741824 ∧ 1 ≤ x.next ∧ x.next ≤ 1048577 ∧ x.waits.length ≤ 4 ∧ (x.session = 0 → x.waits.length = 0) ∧ ∀ j, j < x.waits.length → custF x j = 0 := by
  unfold mCust at h
  split at h
  · cases h
  split at h
  · cases h
  exact ⟨by omega, by omega, by omega, by omega, by omega, by omega, by omega, by omega, firstF_all h⟩
theorem custF_bd {x : DCustomer} {i : Nat} (h : custF x i = 0) : 1 ≤ (x.waits.getD i default).seq ∧ (x.waits.getD i default).seq < x.next ∧ (0 < i → (x.waits.getD (i - 1) default).seq < (x.waits.getD i default).seq) ∧ (x.waits.getD i default).seq ≤ (x.waits.getD 0 default).seq + 3 ∧ mOp (x.waits.getD i default).op = 0 := by
  unfold custF at h
  split at h
  · cases h
  exact ⟨by omega, by omega, by omega, by omega, h⟩
/-! ### who has a lock -/
def mWho (l : List DLock) (t : ByteArray) : Int × Int × Int :=
  if mLocks l = 0 then
    (if 0 ≤ mIdx (fun x : DLock => decide (x.name = t)) l ∧ ¬ (l.getD (mIdx (fun x : DLock => decide (x.name = t)) l).toNat default).holder = 0 then ((l.getD (mIdx (fun x : DLock => decide (x.name = t)) l).toNat default).holder, (l.getD (mIdx (fun x : DLock => decide (x.name = t)) l).toNat default).fence, 0) else (0, 0, 0))
  else (0, 0, mLocks l)
/-- searches on things with slices, and on what they say -/
theorem mIdx_map {α β : Type} (f : α → β) (p : β → Bool) (L : List α) : mIdx (fun x => p (f x)) L = mIdx p (L.map f) := by
  unfold mIdx
  rw [List.findIdx_map, List.length_map]
  rfl
theorem getD_map {α β : Type} [Inhabited α] [Inhabited β] (f : α → β) (hf : f default = default) (L : List α) (i : Nat) : (L.map f).getD i default = f (L.getD i default) := by
  rw [List.getD_eq_getElem?_getD, List.getD_eq_getElem?_getD, List.getElem?_map]
  cases L[i]? with
  | none => exact hf.symm
  | some x => rfl
theorem srt_map {α β : Type} [Inhabited α] [Inhabited β] {f : α → β} (hf : f default = default) {c : β → Int} {L : List α} (h : Srt c (L.map f)) : Srt (fun x => c (f x)) L := fun i j hij hj h0 => by
  have := h i j hij (by rw [List.length_map]; exact hj) (by rw [getD_map f hf]; exact h0)
  rwa [getD_map f hf] at this
theorem bsf_lock {L : List CLock} (h : mLocks (L.map CLock.abs) = 0) (t : ByteArray) : mBSf (fun x : CLock => cmpS x.name t) L = decide (0 ≤ mIdx (fun x : DLock => decide (x.name = t)) (L.map CLock.abs)) ∧ (mBSf (fun x : CLock => cmpS x.name t) L = true → (mBS (fun x : CLock => cmpS x.name t) L : Int) = mIdx (fun x : DLock => decide (x.name = t)) (L.map CLock.abs)) := by
  have hs : Srt (fun x : CLock => cmpS x.name t) L := srt_map (f := CLock.abs) rfl (locks_srt h t)
  have := bs_srt hs
  rw [name_pred CLock.name t] at this
  have e : mIdx (fun x : CLock => decide (x.name = t)) L = mIdx (fun x : DLock => decide (x.name = t)) (L.map CLock.abs) := mIdx_map CLock.abs (fun y : DLock => decide (y.name = t)) L
  rwa [e] at this
end Go.Proofs.Ytececkgjacccmad.Fw
namespace Go.Proofs.Ytececkgjacccmad.Fw
theorem mTell_bd (s : ByteArray) : (mTell s).1.size ≤ s.size ∧ (mTell s).2.1.size ≤ s.size := by
  have h := mRead_bd s
  unfold mTell
  split
  · simp [emp_size]
  · split
    · simp [emp_size]
    · split
      · simp [emp_size]
      · simp only [ByteArray.size_extract]
        omega
end Go.Proofs.Ytececkgjacccmad.Fw

namespace Go.Proofs.Ytececkgjacccmad.Fw
open Go.RowKit
/-! ### mails to clients -/
def mHear (x : DCustomer) (m : DMail) : DCustomer × Int :=
  if ¬ mCust x = 0 then (zCust, mCust x) else if ¬ m.client = x.id then (zCust, 6) else
  if m.seq = 0 then
    (if 0 < x.session then (zCust, 12) else
     if m.reply.code = 0 ∨ m.reply.code = 7 then (if m.reply.n < 1 ∨ 1073741824 < m.reply.n then (zCust, 2) else (⟨x.id, m.reply.n, x.next, x.waits⟩, 0)) else (x, 0))
  else if mIdx (fun z : DWait => decide (z.seq = m.seq)) x.waits < 0 then (zCust, 12)
  else if m.reply.code = 11 then (⟨x.id, 0, x.next, []⟩, 0)
  else (⟨x.id, x.session, x.next, x.waits.filter fun z => !decide (z.seq = m.seq)⟩, 0)
/-- what is there once, taken out -/
theorem filter_one {α : Type} [Inhabited α] {p : α → Bool} {L : List α} {k : Nat} (hk : k < L.length) (hp : p (L.getD k default) = true) (h : ∀ j, j < L.length → ¬ j = k → p (L.getD j default) = false) : L.take k ++ L.drop (k + 1) = L.filter fun z => !p z := by
  have e : L = L.take k ++ (L.getD k default :: L.drop (k + 1)) := by
    have h1 : L.drop k = L.getD k default :: L.drop (k + 1) := by
      rw [List.drop_eq_getElem_cons hk, List.getD_eq_getElem?_getD, List.getElem?_eq_getElem hk]; rfl
    rw [← h1, List.take_append_drop]
  have h2 : (L.take k).filter (fun z => !p z) = L.take k := filter_take (by omega) fun j hj => h j (by omega) (by omega)
  have h3 : (L.drop (k + 1)).filter (fun z => !p z) = L.drop (k + 1) := by
    rw [List.filter_eq_self]
    intro z hz
    obtain ⟨j, hj, rfl⟩ := List.getElem_of_mem hz
    rw [List.length_drop] at hj
    have h4 := h (k + 1 + j) (by omega) (by omega)
    rw [List.getD_eq_getElem?_getD, List.getElem?_eq_getElem (by omega)] at h4
    rw [List.getElem_drop]
    simpa using h4
  have h5 : (L.take k ++ (L.getD k default :: L.drop (k + 1))).filter (fun z => !p z) = L.take k ++ L.drop (k + 1) := by
    rw [List.filter_append, h2, List.filter_cons, hp, h3]; rfl
  rw [← e] at h5
  exact h5.symm
/-- numbers that rise differ -/
theorem rise_lt {f : Nat → Int} {n : Nat} (h : ∀ i, 0 < i → i < n → f (i - 1) < f i) : ∀ d i, i + d + 1 < n → f i < f (i + d + 1)
  | 0, i, hi => by have := h (i + 1) (by omega) (by omega); simpa using this
  | d + 1, i, hi => by
    have h1 := rise_lt h d i (by omega)
    have h2 := h (i + d + 1 + 1) (by omega) (by omega)
    simp only [Nat.add_sub_cancel] at h2
    have e : i + (d + 1) + 1 = i + d + 1 + 1 := by omega
    rw [e]
    omega
theorem rise_ne {f : Nat → Int} {n : Nat} (h : ∀ i, 0 < i → i < n → f (i - 1) < f i) {i j : Nat} (hi : i < n) (hj : j < n) (hij : ¬ i = j) : ¬ f i = f j := by
  rcases Nat.lt_or_gt_of_ne hij with h1 | h1
  · have := rise_lt h (j - i - 1) i (by omega)
    rw [show i + (j - i - 1) + 1 = j by omega] at this
    omega
  · have := rise_lt h (i - j - 1) j (by omega)
    rw [show j + (i - j - 1) + 1 = i by omega] at this
    omega
theorem waits_one {x : DCustomer} (h : mCust x = 0) {q : Int} {k : Nat} (hk : mIdx (fun z : DWait => decide (z.seq = q)) x.waits = (k : Int)) : x.waits.take k ++ x.waits.drop (k + 1) = x.waits.filter fun z => !decide (z.seq = q) := by
  obtain ⟨_, _, _, _, _, _, _, _, h9⟩ := mCust_bd h
  rcases mIdx_cases (fun z : DWait => decide (z.seq = q)) x.waits with ⟨h1, _⟩ | ⟨i, h1, h2, h3, _⟩
  · omega
  · have : i = k := by omega
    subst this
    have hp := of_decide_eq_true h3
    refine filter_one (p := fun z : DWait => decide (z.seq = q)) h1 h3 fun j hj hji => decide_eq_false fun e => ?_
    exact rise_ne (f := fun i => (x.waits.getD i default).seq) (n := x.waits.length) (fun i h0 hi => (custF_bd (h9 i hi)).2.2.1 h0) hj h1 hji (e.trans hp.symm)
theorem filt_in {s : Sl DWait} {q : Int} {L : List DWait} {i : Nat} (h : L = (s.xs.take i).filter fun z => !decide (z.seq = q)) (hi : i < s.n) (hp : ¬ (s.at i).seq = q) : L ++ [s.at i] = (s.xs.take (i + 1)).filter fun z => !decide (z.seq = q) := by
  rw [← take_snoc hi, List.filter_append, ← h, filt0 (p := fun z : DWait => decide (z.seq = q)) (decide_eq_false hp)]
theorem filt_out {s : Sl DWait} {q : Int} {L : List DWait} {i : Nat} (h : L = (s.xs.take i).filter fun z => !decide (z.seq = q)) (hi : i < s.n) (hp : (s.at i).seq = q) : L = (s.xs.take (i + 1)).filter fun z => !decide (z.seq = q) := by
  rw [← take_snoc hi, List.filter_append, ← h, filt1 (p := fun z : DWait => decide (z.seq = q)) (decide_eq_true hp), List.append_nil]
theorem any_snoc {α : Type} [Inhabited α] {s : Sl α} {p : α → Bool} {b : Bool} {i : Nat} (h : b = (s.xs.take i).any p) (hi : i < s.n) : (b || p (s.at i)) = (s.xs.take (i + 1)).any p := by
  rw [← take_snoc hi, List.any_append, ← h]
  simp
/-! ### a session that is left -/
def zRep : DReply := ⟨0, 0, emp⟩
def mLeave (l : List DSession) (index client : Int) : List DSession × DReply × Int :=
  if ¬ mSess l index = 0 then ([], zRep, mSess l index) else
  if mIdx (fun x : DSession => decide (x.client = client)) l < 0 then (l, ⟨11, 0, emp⟩, 0) else
  (l.take (mIdx (fun x : DSession => decide (x.client = client)) l).toNat ++ l.drop ((mIdx (fun x : DSession => decide (x.client = client)) l).toNat + 1), zRep, 0)
theorem sess_rise {l : List DSession} {index : Int} (h : mSess l index = 0) : ∀ i, 0 < i → i < l.length → (l.getD (i - 1) default).client < (l.getD i default).client := fun i h0 hi => (sessF_bd ((mSess_bd h).2.2.2 i hi)).2.2.2.2.2.2.2.2 h0
/-- the search by a client's number -/
theorem wrap_sub0 {a b : Int} (ha : inR a) (hb : inR b) : IntKind.i64.wrap (a - b) = 0 ↔ a = b := by
  rw [IntKind.wrap_i64]
  unfold inR at ha hb
  omega
theorem sess_srt {l : List DSession} {index : Int} (h : mSess l index = 0) {t : Int} (ht : 1 ≤ t ∧ t ≤ 9) : Srt (fun x : DSession => IntKind.i64.wrap (x.client - t)) l := fun i j hij hj h0 => by
  have hi : i < l.length := by omega
  have h1 := sessF_bd ((mSess_bd h).2.2.2 i hi)
  have h2 := sessF_bd ((mSess_bd h).2.2.2 j hj)
  have h3 := rise_lt (f := fun i => (l.getD i default).client) (n := l.length) (sess_rise h) (j - i - 1) i (by omega)
  rw [show i + (j - i - 1) + 1 = j by omega] at h3
  have e1 : IntKind.i64.wrap ((l.getD i default).client - t) = (l.getD i default).client - t := wrap64_id ⟨by omega, by omega⟩
  have e2 : IntKind.i64.wrap ((l.getD j default).client - t) = (l.getD j default).client - t := wrap64_id ⟨by omega, by omega⟩
  have h0' : 0 ≤ IntKind.i64.wrap ((l.getD i default).client - t) := h0
  show 0 < IntKind.i64.wrap ((l.getD j default).client - t)
  rw [e1] at h0'
  rw [e2]
  have h3' : (l.getD i default).client < (l.getD j default).client := h3
  omega
theorem bsf_sess {L : List CSession} {index t : Int} (h : mSess (L.map CSession.abs) index = 0) (ht : inR t) : mBSf (fun x : CSession => IntKind.i64.wrap (x.client - t)) L = decide (0 ≤ mIdx (fun x : DSession => decide (x.client = t)) (L.map CSession.abs)) ∧ (mBSf (fun x : CSession => IntKind.i64.wrap (x.client - t)) L = true → (mBS (fun x : CSession => IntKind.i64.wrap (x.client - t)) L : Int) = mIdx (fun x : DSession => decide (x.client = t)) (L.map CSession.abs)) := by
  have hall : ∀ j, j < L.length → 1 ≤ (L.getD j default).client ∧ (L.getD j default).client ≤ 9 := fun j hj => by
    have := sessF_bd ((mSess_bd h).2.2.2 j (by rw [List.length_map]; exact hj))
    rw [getD_map CSession.abs rfl] at this
    exact ⟨this.1, this.2.1⟩
  have hp : ∀ j, j < L.length → (IntKind.i64.wrap ((L.getD j default).client - t) = 0 ↔ (L.getD j default).client = t) := fun j hj => wrap_sub0 ⟨by have := hall j hj; omega, by have := hall j hj; omega⟩ ht
  have e : mIdx (fun x : CSession => decide (IntKind.i64.wrap (x.client - t) = 0)) L = mIdx (fun x : DSession => decide (x.client = t)) (L.map CSession.abs) := by
    rw [← mIdx_map CSession.abs]
    rcases mIdx_cases (fun x : CSession => decide (IntKind.i64.wrap (x.client - t) = 0)) L with ⟨h1, h2⟩ | ⟨i, h1, h2, h3, h4⟩
    · rw [h1]
      exact (mIdxL_none (p := fun x : CSession => decide (x.abs.client = t)) fun j hj => decide_eq_false fun e => of_decide_eq_false (h2 j hj) ((hp j hj).2 e)).symm
    · rw [h2]
      exact (mIdxL_here (p := fun x : CSession => decide (x.abs.client = t)) h1 (decide_eq_true ((hp i h1).1 (of_decide_eq_true h3))) fun j hj => decide_eq_false fun e => of_decide_eq_false (h4 j hj) ((hp j (by omega)).2 e)).symm
  by_cases ht2 : 1 ≤ t ∧ t ≤ 9
  · have hs : Srt (fun x : CSession => IntKind.i64.wrap (x.client - t)) L := srt_map (f := CSession.abs) rfl (sess_srt h ht2)
    have := bs_srt hs
    rwa [e] at this
  · have := bs_none (c := fun x : CSession => IntKind.i64.wrap (x.client - t)) (L := L) fun j hj h0 => by
      have h1 := hall j hj
      have h2 := (hp j hj).1 h0
      omega
    rw [e] at this
    rw [this.1, this.2]
    exact ⟨rfl, fun h => by cases h⟩
end Go.Proofs.Ytececkgjacccmad.Fw
namespace Go.Proofs.Ytececkgjacccmad.Fw
theorem mAck_bd {x : DCustomer} (h : mCust x = 0) : 0 ≤ mAck x ∧ mAck x ≤ 1048576 := by
  obtain ⟨_, _, _, _, h5, h6, h7, _, h9⟩ := mCust_bd h
  unfold mAck
  split
  · rename_i h0
    have := custF_bd (h9 0 h0)
    omega
  · omega
end Go.Proofs.Ytececkgjacccmad.Fw

namespace Go.Proofs.Ytececkgjacccmad.Fw
open Go.RowKit
/-! ### a lock that is given up -/
def mPass (d : DLock) : DLock := if 0 < d.line.length ∧ d.fence < 1073741824 then ⟨d.name, d.line.getD 0 default, d.fence + 1, d.line.drop 1⟩ else ⟨d.name, 0, d.fence, []⟩
/-- one is not in the line any more -/
def unline (l : List Int) (who : Int) : List Int := l.filter fun z => !decide (z = who)
def goneF (who : Int) (d : DLock) : DLock := if d.holder = who then mPass ⟨d.name, d.holder, d.fence, unline d.line who⟩ else ⟨d.name, d.holder, d.fence, unline d.line who⟩
def mGone (l : List DLock) (who : Int) : List DLock × Int := if ¬ mLocks l = 0 then ([], mLocks l) else if who < 1 ∨ 9 < who then ([], 2) else (l.map (goneF who), 0)
/-- a line that may be: nobody stands twice -/
theorem line_one {d : DLock} (h : lineOk d = true) {who : Int} {k : Nat} (hk : mIdx (fun z => decide (z = who)) d.line = (k : Int)) : d.line.take k ++ d.line.drop (k + 1) = unline d.line who := by
  simp only [lineOk, Bool.and_eq_true] at h
  have hpos := allTo_good h.1
  rcases mIdx_cases (fun z => decide (z = who)) d.line with ⟨h1, _⟩ | ⟨i, h1, h2, h3, h4⟩
  · omega
  · have : i = k := by omega
    subst this
    refine filter_one (p := fun z => decide (z = who)) h1 h3 fun j hj hji => ?_
    rcases Nat.lt_or_gt_of_ne hji with h5 | h5
    · exact h4 j h5
    · refine decide_eq_false fun e => ?_
      have h6 := hpos j hj
      simp only [posOk, Bool.and_eq_true, Bool.not_eq_true', List.any_eq_false, decide_eq_true_eq] at h6
      refine h6.2.2 (d.line.getD i default) ?_ ((of_decide_eq_true h3).trans e.symm)
      rw [List.getD_eq_getElem?_getD, List.getElem?_eq_getElem h1]
      refine List.mem_iff_getElem?.2 ⟨i, ?_⟩
      rw [List.getElem?_take, if_pos h5, List.getElem?_eq_getElem h1]
      rfl
theorem line_none {l : List Int} {who : Int} (h : mIdx (fun z => decide (z = who)) l < 0) : unline l who = l := by
  rcases mIdx_cases (fun z => decide (z = who)) l with ⟨h1, _⟩ | ⟨i, _, h2, _⟩
  · exact delF_none h1
  · omega
/-- what is known of a line that only reads: in its block -/
def fpA (A : Option Addr) : List Nat := match A with
  | some a => [a.block]
  | none => []
def lineD (x : CLock) : Res := ⟨fpA x.line.A, fun w => Sl.rd (· ∈ fpA x.line.A) w x.line, fun h p => Sl.rd.stay p fun b hb _ => h b hb⟩
theorem fp_lineR (e : Nat) (x : CLock) : (lineR e x).fp = fpA x.line.A := by
  unfold lineR rowA rowR fpA
  cases x.line.A <;> rfl
theorem lineR_D (e : Nat) (x : CLock) (w : World) (h : (lineR e x).p w) : (lineD x).p w := by
  have hf := fp_lineR e x
  exact rowA_rd (A := x.line.A) (c := x.line.c) (L := x.line.xs) h (fun b hb => by rw [← hf]; exact hb) fun _ _ => trivial
theorem fpA_off (A : Option Addr) (c o size : Nat) : fpA (offA A c o size) = fpA A := by
  by_cases h : c = o
  · rw [offA, if_pos h]
  · rw [offA, if_neg h]
    cases A with
    | none => rfl
    | some a => simp [fpA, add_block]
def passC (x : CLock) : CLock := if 0 < x.line.n ∧ x.fence < 1073741824 then ⟨x.name, x.line.at 0, x.fence + 1, ⟨offA x.line.A x.line.c 1 1, x.line.c - 1, x.line.xs.drop 1⟩⟩ else ⟨x.name, 0, x.fence, Sl.nil⟩
theorem passC_abs (x : CLock) : (passC x).abs = mPass x.abs := by
  unfold passC mPass
  have h1 : x.abs.line = x.line.xs := rfl
  have h2 : x.abs.fence = x.fence := rfl
  rw [h1, h2]
  split <;> rfl
theorem CellsAt.off {w : World} {a : Addr} {vs : List Value} (h : CellsAt w a vs) (o : Nat) : CellsAt w (a.add o) (vs.drop o) := by
  have := h.part o vs.length
  rwa [List.take_of_length_le (by rw [List.length_drop]; omega)] at this
theorem Sl.rd.dropI {B : Nat → Prop} {w : World} {s : Sl Int} (h : s.rd B w) (hn : 0 < s.n) : Sl.rd B w (⟨offA s.A s.c 1 1, s.c - 1, s.xs.drop 1⟩ : Sl Int) := by
  have hl : (s.xs.drop 1).length = s.n - 1 := List.length_drop ..
  refine ⟨by show (s.xs.drop 1).length ≤ s.c - 1; have := h.1; omega, by show s.c - 1 ≤ maxLen; have := h.2.1; omega, fun i x hx => ?_⟩
  rw [List.getElem?_drop] at hx
  obtain ⟨⟨a, ha, hB, hc⟩, _⟩ := h.2.2 (1 + i) x hx
  have hi : 1 + i < s.n := (List.getElem?_eq_some_iff.1 hx).1
  have hne : ¬ s.c = 1 := by have := h.1; omega
  refine ⟨⟨a.add 1, ?_, by rw [add_block]; exact hB, ?_⟩, trivial⟩
  · show offA s.A s.c 1 1 = _
    unfold offA
    rw [if_neg hne, ha]
    rfl
  · rw [addr_add]
    have e : (1 + i) * Lay.size Int = 1 + i * Lay.size Int := by show (1 + i) * 1 = 1 + i * 1; omega
    rw [← e]
    exact hc
theorem lineD_pass (x : CLock) (w : World) (h : (lineD x).p w) : (lineD (passC x)).p w ∧ (lineD (passC x)).fp.Sublist (lineD x).fp := by
  unfold passC
  split
  · rename_i hn
    have h1 : Sl.rd (· ∈ fpA x.line.A) w x.line := h
    refine ⟨?_, ?_⟩
    · show Sl.rd (· ∈ fpA (offA x.line.A x.line.c 1 1)) w _
      rw [fpA_off]
      exact h1.dropI hn.1
    · show (fpA (offA x.line.A x.line.c 1 1)).Sublist _
      rw [fpA_off]
      exact List.Sublist.refl _
  · exact ⟨Sl.rd_nil _ _, List.nil_sublist _⟩
end Go.Proofs.Ytececkgjacccmad.Fw

namespace Go.Proofs.Ytececkgjacccmad.Fw
open Go.RowKit
def zLog : DLog := ⟨0, []⟩
def mCut (x : DLog) (i : Int) : DLog × Int :=
  if ¬ mLog x = 0 then (zLog, mLog x) else if i < x.base ∨ mLast x < i then (zLog, 2) else if 1073741424 < i then (zLog, 8) else (⟨i, x.entries.drop (i - x.base).toNat⟩, 0)
def mBehind (x : DLog) (i many : Int) : List ByteArray × Int :=
  if ¬ mLog x = 0 then ([], mLog x) else if i < x.base ∨ many < 0 then ([], 2) else ((x.entries.drop (i - x.base).toNat).take many.toNat, 0)
def putOne (E : List ByteArray) (k : Nat) (s : ByteArray) : List ByteArray := if k < E.length ∧ E.getD k default = s then E else E.take k ++ [s]
def putGo : List ByteArray → Nat → List ByteArray → List ByteArray × Int
  | E, _, [] => (E, 0)
  | E, k, s :: r => if ¬ (mDecode s).2 = 0 then ([], (mDecode s).2) else putGo (putOne E k s) (k + 1) r
def mPut (x : DLog) (behind : Int) (more : List ByteArray) : DLog × Int :=
  if ¬ mLog x = 0 then (zLog, mLog x) else if behind < 0 ∨ 1073741824 < behind then (zLog, 2) else if 400 < more.length then (zLog, 1) else if mLast x < behind then (zLog, 13) else
  if ¬ (putGo x.entries (behind - x.base).toNat (more.drop (x.base - behind).toNat)).2 = 0 then (zLog, (putGo x.entries (behind - x.base).toNat (more.drop (x.base - behind).toNat)).2) else
  if 400 < (putGo x.entries (behind - x.base).toNat (more.drop (x.base - behind).toNat)).1.length then (zLog, 8) else
  (⟨x.base, (putGo x.entries (behind - x.base).toNat (more.drop (x.base - behind).toNat)).1⟩, 0)
end Go.Proofs.Ytececkgjacccmad.Fw
namespace Go.Proofs.Ytececkgjacccmad.Fw
theorem take_min {α : Type} {l : List α} {m d : Nat} (h : l.length = d) : l.take (if m < d then m else d) = l.take m := by
  split
  · rfl
  · rw [List.take_of_length_le (by omega), List.take_of_length_le (by omega)]
theorem take_next {E : Sl ByteArray} {d k : Nat} (h : d + k < E.n) {j : Nat} (hj : j = d + k) : (E.xs.drop d).take k ++ [E.at j] = (E.xs.drop d).take (k + 1) := by
  subst hj
  have h1 : (E.xs.drop d)[k]? = some (E.at (d + k)) := by rw [List.getElem?_drop]; exact Sl.at_some h
  rw [List.take_add_one, h1]
  rfl
end Go.Proofs.Ytececkgjacccmad.Fw
namespace Go.Proofs.Ytececkgjacccmad.Fw
theorem inR_of_wf {n : Int} (h : (Lit.int .i64 n).wf = true) : inR n := by
  have h1 : IntKind.i64.min = -9223372036854775808 := by decide
  have h2 : IntKind.i64.max = 9223372036854775807 := by decide
  simp only [Lit.wf, h1, h2, Bool.and_eq_true, decide_eq_true_eq] at h
  exact h
end Go.Proofs.Ytececkgjacccmad.Fw

